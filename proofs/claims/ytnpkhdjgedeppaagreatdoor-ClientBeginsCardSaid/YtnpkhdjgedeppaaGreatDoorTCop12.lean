import Derived.Test.YtnpkhdjgedeppaaGreatDoorTDigest4
namespace Go.Proofs.YtnpkhdjgedeppaaGreatDoor
set_option maxHeartbeats 64000000
open Go.Am
set_option linter.unusedSimpArgs false
set_option linter.unusedVariables false
set_option maxRecDepth 100000
noncomputable def rowsG (js : List Jb) (i : Nat) (R : List AVal) : List (List AVal) := (js.map Jb.cs).set i R
@[go_sem] theorem rowsG_len (js i R) : (rowsG js i R).length = js.length := by simp [rowsG]
theorem rowsG_at {js : List Jb} {i : Nat} (hi : i < js.length) (R) : (rowsG js i R)[i]? = some R := by simp [rowsG, hi]
@[go_sem] theorem rowsG_set (js i R R') : (rowsG js i R).set i R' = rowsG js i R' := by simp [rowsG]
@[go_sem] theorem rowsG_close (js : List Jb) (i : Nat) (a0 a1 a2 a3 a4 a5 a6 a7 a8 a9 : Int) (k v : List UInt8) (o b : En) (x : It) (l : List (List UInt8)) : rowsG js i [.int .i64 a0, .int .i64 a1, .int .i64 a2, .int .i64 a3, .int .i64 a4, .int .i64 a5, .str k, .str v, .str o.name, .int .u64 (o.id : Int), .int .i64 o.fr, .int .i64 o.un, .int .i64 o.ix, .str o.tag, .str x.k, .str x.v, .int .i64 x.n, .bool x.g, .int .i64 a6, .int .i64 a7, .slice 1 (l.map strRow), .str b.name, .int .u64 (b.id : Int), .int .i64 b.fr, .int .i64 b.un, .int .i64 b.ix, .str b.tag, .int .i64 a8, .int .i64 a9] = (js.set i ⟨a0, a1, a2, a3, a4, a5, k, v, o, x, a6, a7, l, b, a8, a9⟩).map Jb.cs := by unfold rowsG; rw [List.map_set]; rfl
theorem rowsG_start {js : List Jb} {i : Nat} (R) : (js.map Jb.cs).set i R = rowsG js i R := rfl
theorem clo_pkE (H : Heap) : ∀ (d : Nat) (v : AVal), v.plain = true → pkE H d v = some (v, [])
  | 0, v, h => by cases v <;> simp [AVal.plain] at h <;> rfl
  | d + 1, v, h => by cases v <;> simp [AVal.plain] at h <;> rfl
theorem plain_pkL (H : Heap) (d : Nat) : ∀ l : List AVal, (∀ v ∈ l, v.plain = true) → pkL (pkE H d) l = some (l, [])
  | [], _ => rfl
  | v :: l, h => by
    rw [pkL, clo_pkE H d v (h v (by simp)), Option.bind_some, plain_pkL H d l (fun w hw => h w (by simp [hw]))]
    rfl
theorem plain_jb (j : Jb) : ∀ v ∈ j.cs, v.plain = true := by
  intro v hv
  simp only [Jb.cs, List.mem_cons, List.not_mem_nil, or_false] at hv
  rcases hv with rfl | rfl | rfl | rfl | rfl | rfl | rfl | rfl | rfl | rfl | rfl | rfl | rfl | rfl | rfl | rfl | rfl | rfl | rfl | rfl | rfl | rfl | rfl | rfl | rfl | rfl | rfl | rfl | rfl <;> rfl
theorem pkLL_jobs (H : Heap) (d : Nat) : ∀ js : List Jb, pkLL (pkE H d) (js.map Jb.cs) = some (js.map Jb.cs, [])
  | [] => rfl
  | j :: js => by
    rw [List.map_cons, pkLL, plain_pkL H d _ (plain_jb j), Option.bind_some, pkLL_jobs H d js]
    rfl
theorem pkLL_set (H : Heap) (d : Nat) (R : List AVal) : ∀ (js : List Jb) (i : Nat), i < js.length → pkLL (pkE H d) ((js.map Jb.cs).set i R) = (pkL (pkE H d) R).bind fun p => some ((js.map Jb.cs).set i p.1, p.2)
  | [], i, h => by simp at h
  | j :: js, 0, _ => by
    rw [List.map_cons, List.set_cons_zero, pkLL, pkLL_jobs]
    cases pkL (pkE H d) R <;> simp
  | j :: js, i + 1, h => by
    rw [List.map_cons, List.set_cons_succ, pkLL, plain_pkL H d _ (plain_jb j), Option.bind_some, pkLL_set H d R js i (by simpa using h)]
    cases pkL (pkE H d) R <;> simp
theorem pkL_app (f : AVal → Option (AVal × List Nat)) : ∀ (a b : List AVal), (∀ v ∈ a, f v = some (v, [])) → pkL f (a ++ b) = (pkL f b).bind fun p => some (a ++ p.1, p.2)
  | [], b, _ => by cases h : pkL f b <;> simp [h]
  | v :: a, b, h => by
    rw [List.cons_append, pkL, h v (by simp), Option.bind_some, pkL_app f a b (fun w hw => h w (by simp [hw]))]
    cases h2 : pkL f b <;> simp [h2]
theorem pkL_one (f : AVal → Option (AVal × List Nat)) (a b : List AVal) (A : AVal) (ha : ∀ v ∈ a, f v = some (v, [])) (hb : ∀ v ∈ b, f v = some (v, [])) : pkL f (a ++ A :: b) = (f A).bind fun p => some (a ++ p.1 :: b, p.2) := by
  have e := pkL_app f b [] hb
  simp only [List.append_nil, pkL, Option.bind_some] at e
  rw [pkL_app f a _ ha, pkL, e]
  cases h2 : f A <;> simp [h2]
def jbPre (a0 a1 a2 a3 a4 a5 a6 a7 : Int) (k v : List UInt8) (o : En) (x : It) : List AVal := [.int .i64 a0, .int .i64 a1, .int .i64 a2, .int .i64 a3, .int .i64 a4, .int .i64 a5, .str k, .str v, .str o.name, .int .u64 (o.id : Int), .int .i64 o.fr, .int .i64 o.un, .int .i64 o.ix, .str o.tag, .str x.k, .str x.v, .int .i64 x.n, .bool x.g, .int .i64 a6, .int .i64 a7]
def jbPost (b : En) (a8 a9 : Int) : List AVal := [.str b.name, .int .u64 (b.id : Int), .int .i64 b.fr, .int .i64 b.un, .int .i64 b.ix, .str b.tag, .int .i64 a8, .int .i64 a9]
theorem jb_split (a0 a1 a2 a3 a4 a5 a6 a7 a8 a9 : Int) (k v : List UInt8) (o b : En) (x : It) (A : AVal) : [.int .i64 a0, .int .i64 a1, .int .i64 a2, .int .i64 a3, .int .i64 a4, .int .i64 a5, .str k, .str v, .str o.name, .int .u64 (o.id : Int), .int .i64 o.fr, .int .i64 o.un, .int .i64 o.ix, .str o.tag, .str x.k, .str x.v, .int .i64 x.n, .bool x.g, .int .i64 a6, .int .i64 a7, A, .str b.name, .int .u64 (b.id : Int), .int .i64 b.fr, .int .i64 b.un, .int .i64 b.ix, .str b.tag, .int .i64 a8, .int .i64 a9] = jbPre a0 a1 a2 a3 a4 a5 a6 a7 k v o x ++ A :: jbPost b a8 a9 := rfl
theorem jbPre_plain (a0 a1 a2 a3 a4 a5 a6 a7 : Int) (k v : List UInt8) (o : En) (x : It) : ∀ w ∈ jbPre a0 a1 a2 a3 a4 a5 a6 a7 k v o x, w.plain = true := by
  intro w hw
  simp only [jbPre, List.mem_cons, List.not_mem_nil, or_false] at hw
  rcases hw with rfl | rfl | rfl | rfl | rfl | rfl | rfl | rfl | rfl | rfl | rfl | rfl | rfl | rfl | rfl | rfl | rfl | rfl | rfl | rfl <;> rfl
theorem jbPost_plain (b : En) (a8 a9 : Int) : ∀ w ∈ jbPost b a8 a9, w.plain = true := by
  intro w hw
  simp only [jbPost, List.mem_cons, List.not_mem_nil, or_false] at hw
  rcases hw with rfl | rfl | rfl | rfl | rfl | rfl | rfl | rfl <;> rfl
theorem k_rowsG {β : Type} (H : Heap) (d : Nat) (js : List Jb) (i : Nat) (a0 a1 a2 a3 a4 a5 a6 a7 a8 a9 : Int) (k v : List UInt8) (o b : En) (x : It) (A : AVal) (hi : i < js.length) (hA : A.clo = false ∨ A.plain = true) (K : List (List AVal) × List Nat → Option β) :
    @kB _ _ (pkRows (pkE H d) (rowsG js i [.int .i64 a0, .int .i64 a1, .int .i64 a2, .int .i64 a3, .int .i64 a4, .int .i64 a5, .str k, .str v, .str o.name, .int .u64 (o.id : Int), .int .i64 o.fr, .int .i64 o.un, .int .i64 o.ix, .str o.tag, .str x.k, .str x.v, .int .i64 x.n, .bool x.g, .int .i64 a6, .int .i64 a7, A, .str b.name, .int .u64 (b.id : Int), .int .i64 b.fr, .int .i64 b.un, .int .i64 b.ix, .str b.tag, .int .i64 a8, .int .i64 a9])) ⟨K⟩ = @kB _ _ (pkE H d A) ⟨fun p => K (rowsG js i [.int .i64 a0, .int .i64 a1, .int .i64 a2, .int .i64 a3, .int .i64 a4, .int .i64 a5, .str k, .str v, .str o.name, .int .u64 (o.id : Int), .int .i64 o.fr, .int .i64 o.un, .int .i64 o.ix, .str o.tag, .str x.k, .str x.v, .int .i64 x.n, .bool x.g, .int .i64 a6, .int .i64 a7, p.1, .str b.name, .int .u64 (b.id : Int), .int .i64 b.fr, .int .i64 b.un, .int .i64 b.ix, .str b.tag, .int .i64 a8, .int .i64 a9], p.2)⟩ := by
  have h1 := pkL_one (pkE H d) (jbPre a0 a1 a2 a3 a4 a5 a6 a7 k v o x) (jbPost b a8 a9) A (fun w hw => clo_pkE H d w (jbPre_plain _ _ _ _ _ _ _ _ _ _ _ _ w hw)) (fun w hw => clo_pkE H d w (jbPost_plain _ _ _ w hw))
  rw [← jb_split] at h1
  have h2 := pkLL_set H d [.int .i64 a0, .int .i64 a1, .int .i64 a2, .int .i64 a3, .int .i64 a4, .int .i64 a5, .str k, .str v, .str o.name, .int .u64 (o.id : Int), .int .i64 o.fr, .int .i64 o.un, .int .i64 o.ix, .str o.tag, .str x.k, .str x.v, .int .i64 x.n, .bool x.g, .int .i64 a6, .int .i64 a7, A, .str b.name, .int .u64 (b.id : Int), .int .i64 b.fr, .int .i64 b.un, .int .i64 b.ix, .str b.tag, .int .i64 a8, .int .i64 a9] js i hi
  rw [h1] at h2
  unfold pkRows rowsG
  split
  · rename_i hc
    have hp : A.plain = true := by
      rcases hA with hA | hA
      · have := List.all_eq_true.1 hc [.int .i64 a0, .int .i64 a1, .int .i64 a2, .int .i64 a3, .int .i64 a4, .int .i64 a5, .str k, .str v, .str o.name, .int .u64 (o.id : Int), .int .i64 o.fr, .int .i64 o.un, .int .i64 o.ix, .str o.tag, .str x.k, .str x.v, .int .i64 x.n, .bool x.g, .int .i64 a6, .int .i64 a7, A, .str b.name, .int .u64 (b.id : Int), .int .i64 b.fr, .int .i64 b.un, .int .i64 b.ix, .str b.tag, .int .i64 a8, .int .i64 a9] (List.mem_of_getElem? (i := i) (by simp [hi]))
        simp [clos, hA] at this
      · exact hA
    rw [clo_pkE H d A hp]
    rfl
  · rw [h2]
    cases h3 : pkE H d A with
    | none => rfl
    | some p => rfl
noncomputable def nlB (g : Int) : FuncId → List (Nat × Nat) := fun f => if f = 109 then (if g = -2 then [] else [(91, 2001)]) else M.nl f
noncomputable def M1 (g : Int) : Mds := { M with nl := nlB g, inls := [(166, 20000), (154, 40000), (13, 60000), (168, 80000)], gh := some (55, 3, g) }
noncomputable def own1 : Own := fun f => if f = 62 then some (cloneUO 1) else if f = 109 then none else if f = 999999 then none else if f = 203 then none else some (fun ex ds => fn C f ex ds)
theorem own1_ok : OwnOk E own1 := by
  intro f g ex ds q hf hg
  unfold own1 at hf
  split at hf
  · rename_i e
    subst e
    simp only [Option.some.injEq] at hf
    subst hf
    exact cloneUO_ok own_62_0 own_62 ex ds q hg
  · split at hf
    · cases hf
    · split at hf
      · cases hf
      · split at hf
        · cases hf
        · simp only [Option.some.injEq] at hf
          subst hf
          exact fnE_sound mixed own_ok hg
noncomputable def C1 (g : Int) : Cf := ⟨E, M1 g, own1⟩
section
variable (g : Int)
@[go_sem] theorem C1_E : (C1 g).E = E := rfl
@[go_sem] theorem C1_M : (C1 g).M = M1 g := rfl
@[go_sem] theorem M1_par : (M1 g).par = M.par := Eq.trans rfl rfl
@[go_sem] theorem M1_res : (M1 g).res = M.res := Eq.trans rfl rfl
@[go_sem] theorem M1_loc : (M1 g).loc = M.loc := Eq.trans rfl rfl
@[go_sem] theorem M1_nl : (M1 g).nl = nlB g := Eq.trans rfl rfl
@[go_sem] theorem nlB_on : nlB g 154 = M.nl 154 := if_neg (by decide)
@[go_sem] theorem nlB_Copy : nlB g 13 = M.nl 13 := if_neg (by decide)
@[go_sem] theorem nlB_more : nlB g 168 = M.nl 168 := if_neg (by decide)
@[go_sem] theorem nlB_done : nlB g 166 = M.nl 166 := if_neg (by decide)
@[go_sem] theorem nlB_A : nlB (-2) 109 = [] := by unfold nlB; rw [if_pos rfl, if_pos rfl]
theorem nlB_B (h : ¬ g = -2) : nlB g 109 = [(91, 2001)] := by unfold nlB; rw [if_pos rfl, if_neg h]
@[go_sem] theorem M1_cur : (M1 g).cur = [] := Eq.trans rfl rfl
@[go_sem] theorem M1_base : (M1 g).base = 0 := Eq.trans rfl rfl
@[go_sem] theorem M1_inls : (M1 g).inls = [(166, 20000), (154, 40000), (13, 60000), (168, 80000)] := Eq.trans rfl rfl
@[go_sem] theorem M1_gh : (M1 g).gh = some (55, 3, g) := Eq.trans rfl rfl
@[go_sem] theorem kB_map {α γ β : Type} (f : γ → α) (x : Option γ) (K : α → Option β) : @kB _ _ (x.map f) ⟨K⟩ = @kB _ _ x ⟨fun a => K (f a)⟩ := by cases x <;> rfl
def ghV (v : AVal) (n : Int) (C : Orc) : Orc := match v with | .int _ m => if m = n then C else closeO C | _ => C
@[go_sem] theorem gh_some (d t : Nat) (n : Int) (e : Tmp) (ρ : Operand → AVal) (C : Orc) : ghO (some (d, t, n)) (some e) ρ C = if e = d then ghV (ρ (.tmp t)) n C else C := by
  show (if some e = some d then _ else _) = _
  by_cases h : e = d
  · subst h; rw [if_pos rfl, if_pos rfl]; rfl
  · rw [if_neg (by simpa using h), if_neg h]
@[go_sem] theorem ghV_int (k : IntKind) (m n : Int) (C : Orc) : ghV (.int k m) n C = if m = n then C else closeO C := Eq.trans rfl rfl
@[go_sem] theorem closeO_eq (C : Orc) (f ex ds) : closeO C f ex ds = (C f ex ds).map fun q => (closeV q.1, q.2) := Eq.trans rfl rfl
@[go_sem] theorem closeV_usl (st es) : closeV (.usl st es) = .slice st es := Eq.trans rfl rfl
theorem c1_fn (f : FuncId) (h0 : f ≠ 62) (h1 : f ≠ 109) (h2 : f ≠ 999999) (h3 : f ≠ 203) (ex ds) : fn (C1 g) f ex ds = fn C f ex ds :=
  fn_own (g := fun ex ds => fn C f ex ds) (by show own1 f = _; unfold own1; rw [if_neg h0, if_neg h1, if_neg h2, if_neg h3]) ex ds
@[go_sem] theorem c1_Clone (es : List (List AVal)) : fn (C1 g) 62 [] [.slice 1 es] = gu (okRows es = true) (some (.usl 1 es, [])) := by
  rw [fn_own (g := cloneUO 1) (by show own1 62 = _; unfold own1; rw [if_pos rfl])]
  simp [cloneUO, gu]
@[go_sem] theorem c1_copies_work_place (ex ds) : fn (C1 g) 224 ex ds = fn C 224 ex ds := c1_fn g _ (by decide) (by decide) (by decide) (by decide) ex ds
@[go_sem] theorem c1_copies_few (ex ds) : fn (C1 g) 225 ex ds = fn C 225 ex ds := c1_fn g _ (by decide) (by decide) (by decide) (by decide) ex ds
@[go_sem] theorem c1_slices_Contains___string_string_ (ex ds) : fn (C1 g) 226 ex ds = fn C 226 ex ds := c1_fn g _ (by decide) (by decide) (by decide) (by decide) ex ds
@[go_sem] theorem c1_copies_work_drop (ex ds) : fn (C1 g) 213 ex ds = fn C 213 ex ds := c1_fn g _ (by decide) (by decide) (by decide) (by decide) ex ds
@[go_sem] theorem c1_copies_work_end (ex ds) : fn (C1 g) 227 ex ds = fn C 227 ex ds := c1_fn g _ (by decide) (by decide) (by decide) (by decide) ex ds
@[go_sem] theorem c1_copies_work_tell (ex ds) : fn (C1 g) 165 ex ds = fn C 165 ex ds := c1_fn g _ (by decide) (by decide) (by decide) (by decide) ex ds
@[go_sem] theorem c1_store_Put (ex ds) : fn (C1 g) 164 ex ds = fn C 164 ex ds := c1_fn g _ (by decide) (by decide) (by decide) (by decide) ex ds
@[go_sem] theorem c1_copies_next (ex ds) : fn (C1 g) 167 ex ds = fn C 167 ex ds := c1_fn g _ (by decide) (by decide) (by decide) (by decide) ex ds
@[go_sem] theorem c1_pends_Copy (ex ds) : fn (C1 g) 57 ex ds = fn C 57 ex ds := c1_fn g _ (by decide) (by decide) (by decide) (by decide) ex ds
@[go_sem] theorem c1_slices_Clone___api_Peer_api_Peer_ (ex ds) : fn (C1 g) 54 ex ds = fn C 54 ex ds := c1_fn g _ (by decide) (by decide) (by decide) (by decide) ex ds
@[go_sem] theorem c1_slices_Clone___api_Finger_api_Finger_ (ex ds) : fn (C1 g) 55 ex ds = fn C 55 ex ds := c1_fn g _ (by decide) (by decide) (by decide) (by decide) ex ds
@[go_sem] theorem c1_slices_Clone___api_Session_api_Session_ (ex ds) : fn (C1 g) 56 ex ds = fn C 56 ex ds := c1_fn g _ (by decide) (by decide) (by decide) (by decide) ex ds
@[go_sem] theorem c1_slices_Clone___api_Item_api_Item_ (ex ds) : fn (C1 g) 58 ex ds = fn C 58 ex ds := c1_fn g _ (by decide) (by decide) (by decide) (by decide) ex ds
@[go_sem] theorem c1_slices_Clone___api_Job_api_Job_ (ex ds) : fn (C1 g) 59 ex ds = fn C 59 ex ds := c1_fn g _ (by decide) (by decide) (by decide) (by decide) ex ds
@[go_sem] theorem c1_slices_Clone___api_Result_api_Result_ (ex ds) : fn (C1 g) 61 ex ds = fn C 61 ex ds := c1_fn g _ (by decide) (by decide) (by decide) (by decide) ex ds
@[go_sem] theorem c1_slices_Clone___uint64_uint64_ (ex ds) : fn (C1 g) 60 ex ds = fn C 60 ex ds := c1_fn g _ (by decide) (by decide) (by decide) (by decide) ex ds
end
end Go.Proofs.YtnpkhdjgedeppaaGreatDoor
namespace Go.Proofs.YtnpkhdjgedeppaaGreatDoor
set_option maxHeartbeats 64000000
open Go.Am
set_option linter.unusedSimpArgs false
set_option linter.unusedVariables false
set_option maxRecDepth 100000
structure WorkO (H : Heap) (n : Nd) (rows : List (List AVal)) : Prop where
  w : H 40106 = ⟨1, .live, 23, [[.str n.me.name, .int .u64 (n.me.id : Int), .int .i64 n.me.fr, .int .i64 n.me.un, .int .i64 n.me.ix, .str n.me.tag, .int .i64 n.clock, .str n.psk, .int .i64 n.gateI, .str n.gateK, .bool n.ready, .slice 8 (n.pred.map Pr.cs), .slice 8 (n.list.map Pr.cs), .slice 9 (n.fingers.map Fg.cs), .osl 60118 1 0 n.sessions.length, .osl 60121 1 0 n.pends.length, .slice 4 (n.items.map It.cs), .osl 60130 1 0 n.jobs.length, .int .i64 n.rid, .int .i64 n.jobId, .slice 1 (n.draws.map u64Row), .osl 60136 1 0 n.results.length, .sc (.slice none 0 0)]], false⟩
  s : H 60118 = ⟨1, .live, 20, n.sessions.map Se.cs, false⟩
  p : H 60121 = ⟨1, .live, 23, n.pends.map Pd.cs, false⟩
  j : H 60130 = ⟨1, .live, 29, rows, false⟩
  r : H 60136 = ⟨1, .live, 8, n.results.map Rs.cs, false⟩
@[go_sem] theorem nlOn : M.nl 154 = [] := Eq.trans rfl rfl
@[go_sem] theorem nlCopy : M.nl 13 = [] := Eq.trans rfl rfl
theorem il_on0 (n : Nd) (h : n.mid 1000000) (g : Int) (hg : ∀ i : Nat, i < n.jobs.length → ¬ ((i : Int) = g)) (H : Heap) (hH : ∀ o, 40000 ≤ o → H o = ⟨0, .dead, 0, [], false⟩) (K : AVal × Heap → Option Res) (R : Option Res)
    (k : ∀ H', WorkO H' n (n.jobs.map Jb.cs) → (∀ o, o < 40000 → H' o = H o) → K (.ptr 40106 1 0 0, H') = R) : @kB _ _ (il (C1 g) 154 [(aNd n)] H) ⟨K⟩ = R := by
  have := h.pl; have := h.ll; have := h.fl; have := h.sl; have := h.dl; have := h.il; have := h.jl; have := h.wl; have := h.rl
  have pc := e57 n.pends h.dl h.pe h.pi
  have g1 := hH 40101 (by omega); have g2 := hH 40106 (by omega); have g3 := hH 60101 (by omega); have g4 := hH 60102 (by omega); have g5 := hH 60118 (by omega); have g6 := hH 60121 (by omega); have g7 := hH 60130 (by omega); have g8 := hH 60136 (by omega)
  rw [il_text (C := C1 g) Tryz.func154 rfl Tryz.results154 (show (C1 g).M.loc 154 = _ from fq154.1) (by kernel_rfl)]
  simp -implicitDefEqProofs -dsimp +contextual (maxSteps := 9999999) (disch := first | omega | simp only [go_sem] <;> omega | refine ib ?_; kernel_rfl) only [go_sem, seval, ↓reduceIte, g1, g2]
  rw [il_text (C := C1 g) Tryz.func13 rfl Tryz.results13 (show (C1 g).M.loc 13 = _ from fq13.1) (by kernel_rfl)]
  simp -implicitDefEqProofs -dsimp +contextual (maxSteps := 9999999) (disch := first | omega | simp only [go_sem] <;> omega | refine ib ?_; kernel_rfl) only [go_sem, seval, ↓reduceIte, g1, g2, g3, g4, g5, g6, g7, g8, pc]
  refine kFor n.jobs.length (fun i f H' => f 1 = .ptr 60101 1 0 0 ∧ f 2 = .ptr 60102 1 0 0 ∧ f 42 = .int .i64 (n.jobs.length : Nat) ∧ f 43 = .int .i64 (i : Nat) ∧
    H' 60101 = ⟨1, .live, 22, [[.str n.me.name, .int .u64 (n.me.id : Int), .int .i64 n.me.fr, .int .i64 n.me.un, .int .i64 n.me.ix, .str n.me.tag, .int .i64 n.clock, .str n.psk, .int .i64 n.gateI, .str n.gateK, .bool n.ready, .slice 8 (n.pred.map Pr.cs), .slice 8 (n.list.map Pr.cs), .slice 9 (n.fingers.map Fg.cs), .osl 60118 1 0 n.sessions.length, .osl 60121 1 0 n.pends.length, .slice 4 (n.items.map It.cs), .osl 60130 1 0 n.jobs.length, .int .i64 n.rid, .int .i64 n.jobId, .slice 1 (n.draws.map u64Row), .osl 60136 1 0 n.results.length]], false⟩ ∧ (H' 60102).gen = 1 ∧ (H' 60102).mode = .live ∧ (∃ r : List AVal, r.length = 22 ∧ (H' 60102).rows = [r]) ∧
    H' 60118 = ⟨1, .live, 20, n.sessions.map Se.cs, false⟩ ∧ H' 60121 = ⟨1, .live, 23, n.pends.map Pd.cs, false⟩ ∧ H' 60130 = ⟨1, .live, 29, n.jobs.map Jb.cs, false⟩ ∧ H' 60136 = ⟨1, .live, 8, n.results.map Rs.cs, false⟩ ∧ H' 40106 = ⟨0, .dead, 0, [], false⟩ ∧ (∀ o, o < 40000 → H' o = H o)) ?_ ?_
    (by exact ⟨rfl, rfl, rfl, rfl, rfl, rfl, rfl, ⟨_, rfl, rfl⟩, rfl, rfl, rfl, rfl, g2, fun o ho => by repeat (first | rfl | rw [Heap.set_ne _ _ (by omega)])⟩)
  · rintro i f H' hi ⟨f1, f2, f42, f43, H1, H2, H2m, ⟨r, hr, H2r⟩, H3, H4, H5, H6, H7, H8⟩ ih
    have row := jb_row n.jobs i hi
    have st : (n.jobs.map Jb.cs).set i [.int .i64 n.jobs[i].id, .int .i64 n.jobs[i].kind, .int .i64 n.jobs[i].phase, .int .i64 n.jobs[i].hops, .int .i64 n.jobs[i].tries, .int .i64 n.jobs[i].til, .str n.jobs[i].key, .str n.jobs[i].val, .str n.jobs[i].owner.name, .int .u64 (n.jobs[i].owner.id : Int), .int .i64 n.jobs[i].owner.fr, .int .i64 n.jobs[i].owner.un, .int .i64 n.jobs[i].owner.ix, .str n.jobs[i].owner.tag, .str n.jobs[i].item.k, .str n.jobs[i].item.v, .int .i64 n.jobs[i].item.n, .bool n.jobs[i].item.g, .int .i64 n.jobs[i].acks, .int .i64 n.jobs[i].waits, .slice 1 (n.jobs[i].asked.map strRow), .str n.jobs[i].back.name, .int .u64 (n.jobs[i].back.id : Int), .int .i64 n.jobs[i].back.fr, .int .i64 n.jobs[i].back.un, .int .i64 n.jobs[i].back.ix, .str n.jobs[i].back.tag, .int .i64 n.jobs[i].backRid, .int .i64 n.jobs[i].backJob] = n.jobs.map Jb.cs := set_row Jb.cs n.jobs i hi
    have al := h.ja _ (List.getElem_mem hi)
    have ne := hg i hi
    simp -implicitDefEqProofs -dsimp +contextual (maxSteps := 9999999) (disch := first | omega | simp only [go_sem] <;> omega | refine ib ?_; kernel_rfl) only [go_sem, seval, ↓reduceIte, f1, f2, f42, f43, H1, H5, hi, row, st, al, ne]
    exact ih _ _ (by exact ⟨f1, f2, f42, rfl, H1, H2, H2m, ⟨r, hr, H2r⟩, H3, H4, by first | exact H5 | rfl, H6, H7, fun o ho => by repeat (first | exact H8 o ho | rw [Heap.set_ne _ _ (by omega)])⟩)
  · rintro f H' ⟨f1, f2, f42, f43, H1, H2, H2m, ⟨r, hr, H2r⟩, H3, H4, H5, H6, H7, H8⟩
    simp -implicitDefEqProofs -dsimp +contextual (maxSteps := 9999999) (disch := first | omega | simp only [go_sem] <;> omega | refine ib ?_; kernel_rfl) only [go_sem, seval, ↓reduceIte, f1, f2, f42, f43, H1, H2, H2m, H2r, hr, H3, H4, H5, H6, H7]
    exact k _ ⟨rfl, H3, H4, H5, H6⟩ (fun o ho => by repeat (first | exact H8 o ho | rw [Heap.set_ne _ _ (by omega)]))
theorem rowsG_mid {js : List Jb} {i k : Nat} (hk : k < js.length) (hn : ¬ k = i) (R) : (rowsG js i R)[k]? = some js[k].cs := by
  unfold rowsG; rw [List.getElem?_set_ne (fun e => hn e.symm), List.getElem?_map, List.getElem?_eq_getElem hk]; rfl
theorem rowsG_same {js : List Jb} {i k : Nat} (hk : k < js.length) (hn : ¬ k = i) (R) : (rowsG js i R).set k [.int .i64 js[k].id, .int .i64 js[k].kind, .int .i64 js[k].phase, .int .i64 js[k].hops, .int .i64 js[k].tries, .int .i64 js[k].til, .str js[k].key, .str js[k].val, .str js[k].owner.name, .int .u64 (js[k].owner.id : Int), .int .i64 js[k].owner.fr, .int .i64 js[k].owner.un, .int .i64 js[k].owner.ix, .str js[k].owner.tag, .str js[k].item.k, .str js[k].item.v, .int .i64 js[k].item.n, .bool js[k].item.g, .int .i64 js[k].acks, .int .i64 js[k].waits, .slice 1 (js[k].asked.map strRow), .str js[k].back.name, .int .u64 (js[k].back.id : Int), .int .i64 js[k].back.fr, .int .i64 js[k].back.un, .int .i64 js[k].back.ix, .str js[k].back.tag, .int .i64 js[k].backRid, .int .i64 js[k].backJob] = rowsG js i R := by
  unfold rowsG
  rw [List.set_comm _ _ (fun e => hn e.symm)]
  congr 1
  exact set_row Jb.cs js k hk
noncomputable def rowsT (n : Nd) (i m : Nat) (hi : i < n.jobs.length) : List (List AVal) := if i < m then rowsG n.jobs i [.int .i64 n.jobs[i].id, .int .i64 n.jobs[i].kind, .int .i64 n.jobs[i].phase, .int .i64 n.jobs[i].hops, .int .i64 n.jobs[i].tries, .int .i64 n.jobs[i].til, .str n.jobs[i].key, .str n.jobs[i].val, .str n.jobs[i].owner.name, .int .u64 (n.jobs[i].owner.id : Int), .int .i64 n.jobs[i].owner.fr, .int .i64 n.jobs[i].owner.un, .int .i64 n.jobs[i].owner.ix, .str n.jobs[i].owner.tag, .str n.jobs[i].item.k, .str n.jobs[i].item.v, .int .i64 n.jobs[i].item.n, .bool n.jobs[i].item.g, .int .i64 n.jobs[i].acks, .int .i64 n.jobs[i].waits, .osl 60155 1 0 n.jobs[i].asked.length, .str n.jobs[i].back.name, .int .u64 (n.jobs[i].back.id : Int), .int .i64 n.jobs[i].back.fr, .int .i64 n.jobs[i].back.un, .int .i64 n.jobs[i].back.ix, .str n.jobs[i].back.tag, .int .i64 n.jobs[i].backRid, .int .i64 n.jobs[i].backJob] else n.jobs.map Jb.cs
theorem il_on1 (n : Nd) (h : n.mid 1000000) (i : Nat) (hi : i < n.jobs.length) (H : Heap) (hH : ∀ o, 40000 ≤ o → H o = ⟨0, .dead, 0, [], false⟩) (K : AVal × Heap → Option Res) (R : Option Res)
    (k : ∀ H', WorkO H' n (rowsG n.jobs i [.int .i64 n.jobs[i].id, .int .i64 n.jobs[i].kind, .int .i64 n.jobs[i].phase, .int .i64 n.jobs[i].hops, .int .i64 n.jobs[i].tries, .int .i64 n.jobs[i].til, .str n.jobs[i].key, .str n.jobs[i].val, .str n.jobs[i].owner.name, .int .u64 (n.jobs[i].owner.id : Int), .int .i64 n.jobs[i].owner.fr, .int .i64 n.jobs[i].owner.un, .int .i64 n.jobs[i].owner.ix, .str n.jobs[i].owner.tag, .str n.jobs[i].item.k, .str n.jobs[i].item.v, .int .i64 n.jobs[i].item.n, .bool n.jobs[i].item.g, .int .i64 n.jobs[i].acks, .int .i64 n.jobs[i].waits, .osl 60155 1 0 n.jobs[i].asked.length, .str n.jobs[i].back.name, .int .u64 (n.jobs[i].back.id : Int), .int .i64 n.jobs[i].back.fr, .int .i64 n.jobs[i].back.un, .int .i64 n.jobs[i].back.ix, .str n.jobs[i].back.tag, .int .i64 n.jobs[i].backRid, .int .i64 n.jobs[i].backJob]) → H' 60155 = ⟨1, .live, 1, n.jobs[i].asked.map strRow, false⟩ → (∀ o, o < 40000 → H' o = H o) → K (.ptr 40106 1 0 0, H') = R) : @kB _ _ (il (C1 (i : Int)) 154 [(aNd n)] H) ⟨K⟩ = R := by
  have := h.pl; have := h.ll; have := h.fl; have := h.sl; have := h.dl; have := h.il; have := h.jl; have := h.wl; have := h.rl
  have pc := e57 n.pends h.dl h.pe h.pi
  have g1 := hH 40101 (by omega); have g2 := hH 40106 (by omega); have g3 := hH 60101 (by omega); have g4 := hH 60102 (by omega); have g5 := hH 60118 (by omega); have g6 := hH 60121 (by omega); have g7 := hH 60130 (by omega); have g8 := hH 60136 (by omega); have g9 := hH 60155 (by omega)
  obtain ⟨g, hg⟩ : ∃ g : Int, g = (i : Int) := ⟨_, rfl⟩
  rw [← hg]
  rw [il_text (C := C1 g) Tryz.func154 rfl Tryz.results154 (show (C1 g).M.loc 154 = _ from fq154.1) (by kernel_rfl)]
  simp -implicitDefEqProofs -dsimp +contextual (maxSteps := 9999999) (disch := first | omega | simp only [go_sem] <;> omega | refine ib ?_; kernel_rfl) only [go_sem, seval, ↓reduceIte, g1, g2]
  rw [il_text (C := C1 g) Tryz.func13 rfl Tryz.results13 (show (C1 g).M.loc 13 = _ from fq13.1) (by kernel_rfl)]
  simp -implicitDefEqProofs -dsimp +contextual (maxSteps := 9999999) (disch := first | omega | simp only [go_sem] <;> omega | refine ib ?_; kernel_rfl) only [go_sem, seval, ↓reduceIte, g1, g2, g3, g4, g5, g6, g7, g8, pc]
  refine kFor n.jobs.length (fun m f H' => f 1 = .ptr 60101 1 0 0 ∧ f 2 = .ptr 60102 1 0 0 ∧ f 42 = .int .i64 (n.jobs.length : Nat) ∧ f 43 = .int .i64 (m : Nat) ∧
    H' 60101 = ⟨1, .live, 22, [[.str n.me.name, .int .u64 (n.me.id : Int), .int .i64 n.me.fr, .int .i64 n.me.un, .int .i64 n.me.ix, .str n.me.tag, .int .i64 n.clock, .str n.psk, .int .i64 n.gateI, .str n.gateK, .bool n.ready, .slice 8 (n.pred.map Pr.cs), .slice 8 (n.list.map Pr.cs), .slice 9 (n.fingers.map Fg.cs), .osl 60118 1 0 n.sessions.length, .osl 60121 1 0 n.pends.length, .slice 4 (n.items.map It.cs), .osl 60130 1 0 n.jobs.length, .int .i64 n.rid, .int .i64 n.jobId, .slice 1 (n.draws.map u64Row), .osl 60136 1 0 n.results.length]], false⟩ ∧ (H' 60102).gen = 1 ∧ (H' 60102).mode = .live ∧ (∃ r : List AVal, r.length = 22 ∧ (H' 60102).rows = [r]) ∧
    H' 60118 = ⟨1, .live, 20, n.sessions.map Se.cs, false⟩ ∧ H' 60121 = ⟨1, .live, 23, n.pends.map Pd.cs, false⟩ ∧ H' 60130 = ⟨1, .live, 29, rowsT n i m hi, false⟩ ∧ H' 60136 = ⟨1, .live, 8, n.results.map Rs.cs, false⟩ ∧ H' 40106 = ⟨0, .dead, 0, [], false⟩ ∧ (∀ o, o < 40000 → H' o = H o) ∧
    H' 60155 = (if i < m then ⟨1, .live, 1, n.jobs[i].asked.map strRow, false⟩ else ⟨0, .dead, 0, [], false⟩)) ?_ ?_
    (by exact ⟨rfl, rfl, rfl, rfl, rfl, rfl, rfl, ⟨_, rfl, rfl⟩, rfl, rfl, by unfold rowsT; rw [if_neg (by omega)]; rfl, rfl, g2, fun o ho => by repeat (first | rfl | rw [Heap.set_ne _ _ (by omega)]), by rw [if_neg (by omega)]; repeat (first | exact g9 | rw [Heap.set_ne _ _ (by omega)])⟩)
  · rintro m f H' hm ⟨f1, f2, f42, f43, H1, H2, H2m, ⟨r, hr, H2r⟩, H3, H4, H5, H6, H7, H8, H9⟩ ih
    have al := h.ja _ (List.getElem_mem hm)
    rcases Nat.lt_trichotomy m i with hlt | rfl | hlt
    · have row := jb_row n.jobs m hm
      have st : (n.jobs.map Jb.cs).set m [.int .i64 n.jobs[m].id, .int .i64 n.jobs[m].kind, .int .i64 n.jobs[m].phase, .int .i64 n.jobs[m].hops, .int .i64 n.jobs[m].tries, .int .i64 n.jobs[m].til, .str n.jobs[m].key, .str n.jobs[m].val, .str n.jobs[m].owner.name, .int .u64 (n.jobs[m].owner.id : Int), .int .i64 n.jobs[m].owner.fr, .int .i64 n.jobs[m].owner.un, .int .i64 n.jobs[m].owner.ix, .str n.jobs[m].owner.tag, .str n.jobs[m].item.k, .str n.jobs[m].item.v, .int .i64 n.jobs[m].item.n, .bool n.jobs[m].item.g, .int .i64 n.jobs[m].acks, .int .i64 n.jobs[m].waits, .slice 1 (n.jobs[m].asked.map strRow), .str n.jobs[m].back.name, .int .u64 (n.jobs[m].back.id : Int), .int .i64 n.jobs[m].back.fr, .int .i64 n.jobs[m].back.un, .int .i64 n.jobs[m].back.ix, .str n.jobs[m].back.tag, .int .i64 n.jobs[m].backRid, .int .i64 n.jobs[m].backJob] = n.jobs.map Jb.cs := set_row Jb.cs n.jobs m hm
      have ne : ¬ (m : Int) = g := by omega
      have t1 : rowsT n i m hi = n.jobs.map Jb.cs := by unfold rowsT; rw [if_neg (by omega)]
      have t2 : rowsT n i (m + 1) hi = n.jobs.map Jb.cs := by unfold rowsT; rw [if_neg (by omega)]
      rw [t1] at H5
      rw [if_neg (by omega)] at H9
      simp -implicitDefEqProofs -dsimp +contextual (maxSteps := 9999999) (disch := first | omega | simp only [go_sem] <;> omega | refine ib ?_; kernel_rfl) only [go_sem, seval, ↓reduceIte, f1, f2, f42, f43, H1, H5, hm, row, st, al, ne]
      exact ih _ _ (by exact ⟨f1, f2, f42, rfl, H1, H2, H2m, ⟨r, hr, H2r⟩, H3, H4, by rw [t2]; first | exact H5 | rfl, H6, H7, fun o ho => by repeat (first | exact H8 o ho | rw [Heap.set_ne _ _ (by omega)]), by rw [if_neg (by omega)]; first | exact H9 | rfl⟩)
    · have row := jb_row n.jobs m hm
      have t1 : rowsT n m m hi = n.jobs.map Jb.cs := by unfold rowsT; rw [if_neg (by omega)]
      have t2 : rowsT n m (m + 1) hi = rowsG n.jobs m [.int .i64 n.jobs[m].id, .int .i64 n.jobs[m].kind, .int .i64 n.jobs[m].phase, .int .i64 n.jobs[m].hops, .int .i64 n.jobs[m].tries, .int .i64 n.jobs[m].til, .str n.jobs[m].key, .str n.jobs[m].val, .str n.jobs[m].owner.name, .int .u64 (n.jobs[m].owner.id : Int), .int .i64 n.jobs[m].owner.fr, .int .i64 n.jobs[m].owner.un, .int .i64 n.jobs[m].owner.ix, .str n.jobs[m].owner.tag, .str n.jobs[m].item.k, .str n.jobs[m].item.v, .int .i64 n.jobs[m].item.n, .bool n.jobs[m].item.g, .int .i64 n.jobs[m].acks, .int .i64 n.jobs[m].waits, .osl 60155 1 0 n.jobs[m].asked.length, .str n.jobs[m].back.name, .int .u64 (n.jobs[m].back.id : Int), .int .i64 n.jobs[m].back.fr, .int .i64 n.jobs[m].back.un, .int .i64 n.jobs[m].back.ix, .str n.jobs[m].back.tag, .int .i64 n.jobs[m].backRid, .int .i64 n.jobs[m].backJob] := by unfold rowsT; rw [if_pos (by omega)]
      rw [t1] at H5
      rw [if_neg (by omega)] at H9
      have eq : ((m : Int) = g) = True := eq_true hg.symm
      simp -implicitDefEqProofs -dsimp +contextual (maxSteps := 9999999) (disch := first | omega | simp only [go_sem] <;> omega | refine ib ?_; kernel_rfl) only [go_sem, seval, ↓reduceIte, f1, f2, f42, f43, H1, H5, H9, hm, row, al, eq, rowsG_start]
      exact ih _ _ (by exact ⟨f1, f2, f42, rfl, H1, H2, H2m, ⟨r, hr, H2r⟩, H3, H4, by rw [t2]; rfl, H6, H7, fun o ho => by repeat (first | exact H8 o ho | rw [Heap.set_ne _ _ (by omega)]), by rw [if_pos (by omega)]; rfl⟩)
    · have t1 : rowsT n i m hi = rowsG n.jobs i [.int .i64 n.jobs[i].id, .int .i64 n.jobs[i].kind, .int .i64 n.jobs[i].phase, .int .i64 n.jobs[i].hops, .int .i64 n.jobs[i].tries, .int .i64 n.jobs[i].til, .str n.jobs[i].key, .str n.jobs[i].val, .str n.jobs[i].owner.name, .int .u64 (n.jobs[i].owner.id : Int), .int .i64 n.jobs[i].owner.fr, .int .i64 n.jobs[i].owner.un, .int .i64 n.jobs[i].owner.ix, .str n.jobs[i].owner.tag, .str n.jobs[i].item.k, .str n.jobs[i].item.v, .int .i64 n.jobs[i].item.n, .bool n.jobs[i].item.g, .int .i64 n.jobs[i].acks, .int .i64 n.jobs[i].waits, .osl 60155 1 0 n.jobs[i].asked.length, .str n.jobs[i].back.name, .int .u64 (n.jobs[i].back.id : Int), .int .i64 n.jobs[i].back.fr, .int .i64 n.jobs[i].back.un, .int .i64 n.jobs[i].back.ix, .str n.jobs[i].back.tag, .int .i64 n.jobs[i].backRid, .int .i64 n.jobs[i].backJob] := by unfold rowsT; rw [if_pos (by omega)]
      have t2 : rowsT n i (m + 1) hi = rowsG n.jobs i [.int .i64 n.jobs[i].id, .int .i64 n.jobs[i].kind, .int .i64 n.jobs[i].phase, .int .i64 n.jobs[i].hops, .int .i64 n.jobs[i].tries, .int .i64 n.jobs[i].til, .str n.jobs[i].key, .str n.jobs[i].val, .str n.jobs[i].owner.name, .int .u64 (n.jobs[i].owner.id : Int), .int .i64 n.jobs[i].owner.fr, .int .i64 n.jobs[i].owner.un, .int .i64 n.jobs[i].owner.ix, .str n.jobs[i].owner.tag, .str n.jobs[i].item.k, .str n.jobs[i].item.v, .int .i64 n.jobs[i].item.n, .bool n.jobs[i].item.g, .int .i64 n.jobs[i].acks, .int .i64 n.jobs[i].waits, .osl 60155 1 0 n.jobs[i].asked.length, .str n.jobs[i].back.name, .int .u64 (n.jobs[i].back.id : Int), .int .i64 n.jobs[i].back.fr, .int .i64 n.jobs[i].back.un, .int .i64 n.jobs[i].back.ix, .str n.jobs[i].back.tag, .int .i64 n.jobs[i].backRid, .int .i64 n.jobs[i].backJob] := by unfold rowsT; rw [if_pos (by omega)]
      have row := rowsG_mid (i := i) hm (by omega) [.int .i64 n.jobs[i].id, .int .i64 n.jobs[i].kind, .int .i64 n.jobs[i].phase, .int .i64 n.jobs[i].hops, .int .i64 n.jobs[i].tries, .int .i64 n.jobs[i].til, .str n.jobs[i].key, .str n.jobs[i].val, .str n.jobs[i].owner.name, .int .u64 (n.jobs[i].owner.id : Int), .int .i64 n.jobs[i].owner.fr, .int .i64 n.jobs[i].owner.un, .int .i64 n.jobs[i].owner.ix, .str n.jobs[i].owner.tag, .str n.jobs[i].item.k, .str n.jobs[i].item.v, .int .i64 n.jobs[i].item.n, .bool n.jobs[i].item.g, .int .i64 n.jobs[i].acks, .int .i64 n.jobs[i].waits, .osl 60155 1 0 n.jobs[i].asked.length, .str n.jobs[i].back.name, .int .u64 (n.jobs[i].back.id : Int), .int .i64 n.jobs[i].back.fr, .int .i64 n.jobs[i].back.un, .int .i64 n.jobs[i].back.ix, .str n.jobs[i].back.tag, .int .i64 n.jobs[i].backRid, .int .i64 n.jobs[i].backJob]
      have st := rowsG_same (i := i) hm (by omega) [.int .i64 n.jobs[i].id, .int .i64 n.jobs[i].kind, .int .i64 n.jobs[i].phase, .int .i64 n.jobs[i].hops, .int .i64 n.jobs[i].tries, .int .i64 n.jobs[i].til, .str n.jobs[i].key, .str n.jobs[i].val, .str n.jobs[i].owner.name, .int .u64 (n.jobs[i].owner.id : Int), .int .i64 n.jobs[i].owner.fr, .int .i64 n.jobs[i].owner.un, .int .i64 n.jobs[i].owner.ix, .str n.jobs[i].owner.tag, .str n.jobs[i].item.k, .str n.jobs[i].item.v, .int .i64 n.jobs[i].item.n, .bool n.jobs[i].item.g, .int .i64 n.jobs[i].acks, .int .i64 n.jobs[i].waits, .osl 60155 1 0 n.jobs[i].asked.length, .str n.jobs[i].back.name, .int .u64 (n.jobs[i].back.id : Int), .int .i64 n.jobs[i].back.fr, .int .i64 n.jobs[i].back.un, .int .i64 n.jobs[i].back.ix, .str n.jobs[i].back.tag, .int .i64 n.jobs[i].backRid, .int .i64 n.jobs[i].backJob]
      rw [Jb.cs_eq] at row
      have ne : ¬ (m : Int) = g := by omega
      rw [t1] at H5
      rw [if_pos (by omega)] at H9
      simp -implicitDefEqProofs -dsimp +contextual (maxSteps := 9999999) (disch := first | omega | simp only [go_sem] <;> omega | refine ib ?_; kernel_rfl) only [go_sem, seval, ↓reduceIte, f1, f2, f42, f43, H1, H5, hm, row, st, al, ne]
      exact ih _ _ (by exact ⟨f1, f2, f42, rfl, H1, H2, H2m, ⟨r, hr, H2r⟩, H3, H4, by rw [t2]; first | exact H5 | rfl, H6, H7, fun o ho => by repeat (first | exact H8 o ho | rw [Heap.set_ne _ _ (by omega)]), by rw [if_pos (by omega)]; first | exact H9 | rfl⟩)
  · rintro f H' ⟨f1, f2, f42, f43, H1, H2, H2m, ⟨r, hr, H2r⟩, H3, H4, H5, H6, H7, H8, H9⟩
    have t1 : rowsT n i n.jobs.length hi = rowsG n.jobs i [.int .i64 n.jobs[i].id, .int .i64 n.jobs[i].kind, .int .i64 n.jobs[i].phase, .int .i64 n.jobs[i].hops, .int .i64 n.jobs[i].tries, .int .i64 n.jobs[i].til, .str n.jobs[i].key, .str n.jobs[i].val, .str n.jobs[i].owner.name, .int .u64 (n.jobs[i].owner.id : Int), .int .i64 n.jobs[i].owner.fr, .int .i64 n.jobs[i].owner.un, .int .i64 n.jobs[i].owner.ix, .str n.jobs[i].owner.tag, .str n.jobs[i].item.k, .str n.jobs[i].item.v, .int .i64 n.jobs[i].item.n, .bool n.jobs[i].item.g, .int .i64 n.jobs[i].acks, .int .i64 n.jobs[i].waits, .osl 60155 1 0 n.jobs[i].asked.length, .str n.jobs[i].back.name, .int .u64 (n.jobs[i].back.id : Int), .int .i64 n.jobs[i].back.fr, .int .i64 n.jobs[i].back.un, .int .i64 n.jobs[i].back.ix, .str n.jobs[i].back.tag, .int .i64 n.jobs[i].backRid, .int .i64 n.jobs[i].backJob] := by unfold rowsT; rw [if_pos (by omega)]
    rw [t1] at H5
    rw [if_pos hi] at H9
    simp -implicitDefEqProofs -dsimp +contextual (maxSteps := 9999999) (disch := first | omega | simp only [go_sem] <;> omega | refine ib ?_; kernel_rfl) only [go_sem, seval, ↓reduceIte, f1, f2, f42, f43, H1, H2, H2m, H2r, hr, H3, H4, H5, H6, H7]
    exact k _ ⟨rfl, H3, H4, H5, H6⟩ (by repeat (first | exact H9 | rw [Heap.set_ne _ _ (by omega)])) (fun o ho => by repeat (first | exact H8 o ho | rw [Heap.set_ne _ _ (by omega)]))
theorem kLoop_out {C : Cf} {lo : Nat} {b : Code} {Q : Exit → Am.St → Option Res} {R : Option Res} (e : Exit) (P : (Nat → AVal) → Heap → Prop) {f : Nat → AVal} {H : Heap}
    (h1 : ∀ Q' : Exit → Am.St → Option Res, (∀ f H, P f H → Q' e ⟨f, H⟩ = R) → @kLoop f H ⟨(C, lo, b, Q')⟩ = R) (h2 : ∀ f H, P f H → Q e ⟨f, H⟩ = R) : @kLoop f H ⟨(C, lo, b, Q)⟩ = R := h1 Q h2
@[go_sem] theorem Jb.eta (j : Jb) : (⟨j.id, j.kind, j.phase, j.hops, j.tries, j.til, j.key, j.val, j.owner, j.item, j.acks, j.waits, j.asked, j.back, j.backRid, j.backJob⟩ : Jb) = j := rfl
def AskA (H : Heap) (A : AVal) (l : List (List UInt8)) : Prop := ∃ g, A = .osl 60155 g 0 l.length ∧ H 60155 = ⟨g, .live, 1, l.map strRow, false⟩
def ActS (H : Heap) (X : AVal) (l : List Ac) : Prop := (X = .sc (.slice none 0 0) ∧ l = []) ∨ (∃ g, X = .osl 80189 g 0 l.length ∧ H 80189 = ⟨g, .live, 20, l.map Ac.cs, false⟩)
structure MoreS (H : Heap) (n : Nd) (i c : Nat) (j : Jb) (A X : AVal) : Prop where
  w : H 40106 = ⟨1, .live, 23, [[.str n.me.name, .int .u64 (n.me.id : Int), .int .i64 n.me.fr, .int .i64 n.me.un, .int .i64 n.me.ix, .str n.me.tag, .int .i64 n.clock, .str n.psk, .int .i64 n.gateI, .str n.gateK, .bool n.ready, .slice 8 (n.pred.map Pr.cs), .slice 8 (n.list.map Pr.cs), .slice 9 (n.fingers.map Fg.cs), .osl 60118 1 0 n.sessions.length, .osl 60121 1 0 n.pends.length, .slice 4 (n.items.map It.cs), .osl 60130 c 0 n.jobs.length, .int .i64 n.rid, .int .i64 n.jobId, .slice 1 (n.draws.map u64Row), .osl 60136 1 0 n.results.length, X]], false⟩
  s : H 60118 = ⟨1, .live, 20, n.sessions.map Se.cs, false⟩
  p : H 60121 = ⟨1, .live, 23, n.pends.map Pd.cs, false⟩
  j : H 60130 = ⟨c, .live, 29, rowsG n.jobs i [.int .i64 j.id, .int .i64 j.kind, .int .i64 j.phase, .int .i64 j.hops, .int .i64 j.tries, .int .i64 j.til, .str j.key, .str j.val, .str j.owner.name, .int .u64 (j.owner.id : Int), .int .i64 j.owner.fr, .int .i64 j.owner.un, .int .i64 j.owner.ix, .str j.owner.tag, .str j.item.k, .str j.item.v, .int .i64 j.item.n, .bool j.item.g, .int .i64 j.acks, .int .i64 j.waits, A, .str j.back.name, .int .u64 (j.back.id : Int), .int .i64 j.back.fr, .int .i64 j.back.un, .int .i64 j.back.ix, .str j.back.tag, .int .i64 j.backRid, .int .i64 j.backJob], false⟩
  r : H 60136 = ⟨1, .live, 8, n.results.map Rs.cs, false⟩
@[go_sem] theorem nlMore : M.nl 168 = [(77, 906), (76, 0)] := Eq.trans rfl rfl
theorem erase_set {α : Type} (l : List α) (i : Nat) (x : α) : (l.set i x).eraseIdx i = l.eraseIdx i := by
  rw [← erase_take, ← erase_take, List.take_set, List.drop_set_of_lt (by omega), List.set_eq_of_length_le (by simp; omega)]
def AskI (id : Int) (l : List Pr) (j : Jb) (acts : List Ac) (q : Jb × List Ac) : Prop := (askR id l j).1 = q.1 ∧ acts ++ (askR id l j).2 = q.2
theorem AskI.full {id : Int} {l l' : List Pr} {j : Jb} {acts : List Ac} {q : Jb × List Ac} (h : AskI id l j acts q) (hf : 2 ≤ fewR j.acks + fewR j.waits) : q = (j, acts) := by
  obtain ⟨h1, h2⟩ := h
  rw [askR_full id hf] at h1 h2
  rw [List.append_nil] at h2
  exact Prod.ext h1.symm h2.symm
theorem AskI.done {id : Int} {j : Jb} {acts : List Ac} {q : Jb × List Ac} (h : AskI id [] j acts q) : q = (j, acts) := by
  obtain ⟨h1, h2⟩ := h
  rw [askR] at h1 h2
  rw [List.append_nil] at h2
  exact Prod.ext h1.symm h2.symm
theorem AskI.skip {id : Int} {p : Pr} {l : List Pr} {j : Jb} {acts : List Ac} {q : Jb × List Ac} (h : AskI id (p :: l) j acts q) (hf : ¬ 2 ≤ fewR j.acks + fewR j.waits) (hn : p.e.name ∈ j.asked) : AskI id l j acts q := by
  unfold AskI at h ⊢; rwa [askR_skip id p l hf hn] at h
theorem AskI.go {id : Int} {p : Pr} {l : List Pr} {j : Jb} {acts : List Ac} {q : Jb × List Ac} (h : AskI id (p :: l) j acts q) (hf : ¬ 2 ≤ fewR j.acks + fewR j.waits) (hn : ¬ p.e.name ∈ j.asked) :
    AskI id l { j with waits := fewR j.waits + 1, asked := j.asked ++ [p.e.name] } (acts ++ [copyA p.e j.item id]) q := by
  unfold AskI at h ⊢
  rw [askR_go id p l hf hn] at h
  exact ⟨h.1, by rw [← List.append_cons]; exact h.2⟩
theorem il_moreA (g : Int) (n : Nd) (id : Int) (i c : Nat) (j0 : Jb) (A0 : AVal) (hi : i < n.jobs.length) (hcop : copR (n.jobs.set i j0) id = (i : Int)) (h : n.mid 100000) (hal : j0.asked.length ≤ 100000) (H : Heap) (hM : MoreS H n i c j0 A0 (.sc (.slice none 0 0))) (hA : AskA H A0 j0.asked)
    (K : AVal × Heap → Option Res) (R : Option Res) (q : Jb × List Ac) (hq : askR id n.list j0 = q)
    (ka : ∀ H' A X, MoreS H' n i c q.1 A X → AskA H' A q.1.asked → ActS H' X q.2 → (∀ o, o < 40000 → H' o = H o) → 0 < q.1.waits → K (.tup [], H') = R)
    (kb : ∀ H', WorkAt 40106 (moreFin n i q).1 (moreFin n i q).2 H' → (∀ o, o < 40000 → H' o = H o) → ¬ 0 < q.1.waits → K (.tup [], H') = R) :
    @kB _ _ (il (C1 g) 168 [.ptr 40106 1 0 0, .int .i64 id] H) ⟨K⟩ = R := by
  obtain ⟨W1, W2, W3, W4, W5⟩ := hM
  have jl := h.jl
  have ll := h.ll
  have pl := placeI { n with jobs := n.jobs.set i j0 } (.sc (.slice none 0 0)) id (by simp; omega)
  simp only [hcop] at pl
  have row := rowsG_at (R := [.int .i64 j0.id, .int .i64 j0.kind, .int .i64 j0.phase, .int .i64 j0.hops, .int .i64 j0.tries, .int .i64 j0.til, .str j0.key, .str j0.val, .str j0.owner.name, .int .u64 (j0.owner.id : Int), .int .i64 j0.owner.fr, .int .i64 j0.owner.un, .int .i64 j0.owner.ix, .str j0.owner.tag, .str j0.item.k, .str j0.item.v, .int .i64 j0.item.n, .bool j0.item.g, .int .i64 j0.acks, .int .i64 j0.waits, A0, .str j0.back.name, .int .u64 (j0.back.id : Int), .int .i64 j0.back.fr, .int .i64 j0.back.un, .int .i64 j0.back.ix, .str j0.back.tag, .int .i64 j0.backRid, .int .i64 j0.backJob]) hi
  obtain ⟨ga, rfl, ha⟩ := hA
  rw [il_text (C := C1 g) Tryz.func168 rfl Tryz.results168 (show (C1 g).M.loc 168 = _ from fq168.1) (by kernel_rfl)]
  simp -implicitDefEqProofs -dsimp +contextual (maxSteps := 9999999) (disch := first | omega | simp only [go_sem] <;> omega | refine ib ?_; kernel_rfl) only [go_sem, seval, ↓reduceIte, W1, W2, W3, W4, W5, ha, pl, k_rowsG, hi, row, Nat.not_lt_zero]
  clear pl row
  refine kLoop_out (.exit 0) (fun f H' => f 0 = .ptr 40106 1 0 0 ∧ f 1 = .int .i64 id ∧ f 4 = .int .i64 (i : Nat) ∧ f 5 = .ptr 60130 c i 0 ∧ q.1.asked.length ≤ 200000 ∧ q.2.length ≤ 100000 ∧ (∀ o, o < 40000 → H' o = H o) ∧ ∃ A X, MoreS H' n i c q.1 A X ∧ AskA H' A q.1.asked ∧ ActS H' X q.2) ?_ ?_
  · intro Q hQ
    refine kLoop_rec (fun (a : Nat × Jb × List Ac) f H' => a.1 ≤ n.list.length ∧ AskI id (n.list.drop a.1) a.2.1 a.2.2 q ∧ a.2.1.asked.length ≤ 100000 + a.1 ∧ a.2.2.length ≤ a.1 ∧ f 0 = .ptr 40106 1 0 0 ∧ f 1 = .int .i64 id ∧ f 4 = .int .i64 (i : Nat) ∧ f 5 = .ptr 60130 c i 0 ∧ f 25 = .slice 8 (n.list.map Pr.cs) ∧ f 26 = .int .i64 (n.list.length : Nat) ∧ f 27 = .int .i64 (a.1 : Nat) ∧
      (∀ o, o < 40000 → H' o = H o) ∧ ∃ A X, MoreS H' n i c a.2.1 A X ∧ AskA H' A a.2.1.asked ∧ ActS H' X a.2.2) (fun a => n.list.length - a.1) (fun _ => R) ?_ (0, j0, []) _ _ (by exact ⟨Nat.zero_le _, ⟨by rw [List.drop_zero, hq], by rw [List.drop_zero, hq]; rfl⟩, hal, Nat.le_refl _, rfl, rfl, rfl, rfl, rfl, rfl, rfl, fun o ho => rfl, _, _, ⟨W1, W2, W3, W4, W5⟩, ⟨ga, rfl, ha⟩, .inl ⟨rfl, rfl⟩⟩)
    clear ha W1 W2 W3 W4 W5
    rintro ⟨k, j, acts⟩ f H' ⟨hk, hI, hal2, hac, f0, f1, f4, f5, f25, f26, f27, hfr, A, X, ⟨W1, W2, W3, W4, W5⟩, ⟨ga, rfl, ha⟩, hX⟩ ih
    try simp only at hk hI hal2 hac f27 W1 W4 ha hX ih
    have row := fun R => rowsG_at (R := R) hi
    by_cases hl : k < n.list.length
    · have prow := pr_row n.list k hl
      rw [List.drop_eq_getElem_cons hl] at hI
      have b1 := fewR_b j.acks
      have b2 := fewR_b j.waits
      by_cases hfu : 2 ≤ fewR j.acks + fewR j.waits
      · obtain rfl := hI.full (l' := []) hfu
        clear ih
        simp -implicitDefEqProofs -dsimp +contextual (maxSteps := 9999999) (disch := first | omega | simp only [go_sem] <;> omega | refine ib ?_; kernel_rfl) only [go_sem, seval, ↓reduceIte, f0, f1, f4, f5, f25, f26, f27, hl, prow, W1, W2, W3, W4, W5, ha, row, hfu]
        exact hQ _ _ ⟨f0, f1, f4, f5, by simp only; omega, by simp only; omega, fun o ho => by repeat (first | exact hfr o ho | rw [Heap.set_ne _ _ (by omega)]), _, _, ⟨W1, W2, W3, W4, W5⟩, ⟨ga, rfl, ha⟩, hX⟩
      · by_cases hm : n.list[k].e.name ∈ j.asked
        · have hI' := hI.skip hfu hm
          have nm := e226 j.asked n.list[k].e.name (by omega)
          rw [decide_eq_true hm] at nm
          have ih' := ih (k + 1, j, acts)
          try simp only at ih'
          clear ih
          simp -implicitDefEqProofs -dsimp +contextual (maxSteps := 9999999) (disch := first | omega | simp only [go_sem] <;> omega | refine ib ?_; kernel_rfl) only [go_sem, seval, ↓reduceIte, f0, f1, f4, f5, f25, f26, f27, hl, prow, W1, W2, W3, W4, W5, ha, row, hfu, nm]
          refine ih' _ _ ?_ (by omega)
          exact ⟨hl, hI', by omega, by omega, f0, f1, f4, f5, f25, f26, rfl, fun o ho => by repeat (first | exact hfr o ho | rw [Heap.set_ne _ _ (by omega)]), _, _, ⟨W1, W2, W3, W4, W5⟩, ⟨ga, rfl, ha⟩, hX⟩
        · have hI' := hI.go hfu hm
          have nm := e226 j.asked n.list[k].e.name (by omega)
          rw [decide_eq_false hm] at nm
          have ih' := ih (k + 1, { j with waits := fewR j.waits + 1, asked := j.asked ++ [n.list[k].e.name] }, acts ++ [copyA n.list[k].e j.item id])
          try simp only at ih'
          clear ih
          rcases hX with ⟨rfl, rfl⟩ | ⟨gx, rfl, hX⟩
          · simp -implicitDefEqProofs -dsimp +contextual (maxSteps := 9999999) (disch := first | omega | simp only [go_sem] <;> omega | refine ib ?_; kernel_rfl) only [go_sem, seval, ↓reduceIte, f0, f1, f4, f5, f25, f26, f27, hl, prow, W1, W2, W3, W4, W5, ha, row, hfu, nm, hal2]
            refine ih' _ _ ?_ (by omega)
            refine ⟨hl, hI', by simp; omega, by simp, f0, f1, f4, f5, f25, f26, rfl, fun o ho => by repeat (first | exact hfr o ho | rw [Heap.set_ne _ _ (by omega)]), _, _, ⟨rfl, W2, W3, rfl, W5⟩, ⟨ga + 1, by simp, by rw [List.map_append]; rfl⟩, .inr ⟨(H' 80189).gen + 1, rfl, rfl⟩⟩
          · simp -implicitDefEqProofs -dsimp +contextual (maxSteps := 9999999) (disch := first | omega | simp only [go_sem] <;> omega | refine ib ?_; kernel_rfl) only [go_sem, seval, ↓reduceIte, f0, f1, f4, f5, f25, f26, f27, hl, prow, W1, W2, W3, W4, W5, ha, hX, row, hfu, nm, hal2]
            refine ih' _ _ ?_ (by omega)
            refine ⟨hl, hI', by simp; omega, by simp; omega, f0, f1, f4, f5, f25, f26, rfl, fun o ho => by repeat (first | exact hfr o ho | rw [Heap.set_ne _ _ (by omega)]), _, _, ⟨rfl, W2, W3, rfl, W5⟩, ⟨ga + 1, by simp, by rw [List.map_append]; rfl⟩, .inr ⟨gx + 1, by simp, by rw [List.map_append]; rfl⟩⟩
    · obtain rfl : k = n.list.length := by omega
      rw [List.drop_length] at hI
      obtain rfl := hI.done
      clear ih
      simp -implicitDefEqProofs -dsimp +contextual (maxSteps := 9999999) (disch := first | omega | simp only [go_sem] <;> omega | refine ib ?_; kernel_rfl) only [go_sem, seval, ↓reduceIte, f0, f1, f4, f5, f25, f26, f27, W1, W2, W3, W4, W5, ha, row]
      exact hQ _ _ ⟨f0, f1, f4, f5, by simp only; omega, by simp only; omega, hfr, _, _, ⟨W1, W2, W3, W4, W5⟩, ⟨ga, rfl, ha⟩, hX⟩
  · obtain ⟨j, acts⟩ := q
    rintro f H' ⟨f0, f1, f4, f5, hjl, hql, hfr, A, X, ⟨W1, W2, W3, W4, W5⟩, ⟨ga, rfl, ha⟩, hX⟩
    try simp only at W4 ha hX ka kb hjl hql
    have row := fun R => rowsG_at (R := R) hi
    by_cases hw : 0 < j.waits
    · have hw' : ¬ j.waits ≤ 0 := by omega
      simp -implicitDefEqProofs -dsimp +contextual (maxSteps := 9999999) (disch := first | omega | simp only [go_sem] <;> omega | refine ib ?_; kernel_rfl) only [go_sem, seval, ↓reduceIte, f0, f1, f4, f5, W1, W2, W3, W4, W5, ha, row, hw']
      exact ka H' _ _ ⟨W1, W2, W3, W4, W5⟩ ⟨ga, rfl, ha⟩ hX hfr hw
    · have hw' : j.waits ≤ 0 := by omega
      have hmf : moreFin n i (j, acts) = ((tellR { n with jobs := n.jobs.eraseIdx i } j.back j.backRid j.backJob j.item (!j.item.g) 0).1, acts ++ (tellR { n with jobs := n.jobs.eraseIdx i } j.back j.backRid j.backJob j.item (!j.item.g) 0).2) := by unfold moreFin; rw [if_neg hw]
      rw [hmf] at kb
      clear hmf ka
      have hm' := mid_erase i h
      have hms : ({ n with jobs := n.jobs.set i j } : Nd).mid 1000001 := mid_set i j (h.le (by omega)) (by omega)
      by_cases hj : j.backJob = 0
      · rw [tellR, if_pos hj] at kb
        rcases hX with ⟨rfl, rfl⟩ | ⟨gx, rfl, hX⟩
        · have drp := dropW { n with jobs := n.jobs.set i j } _ _ .nil i (by simpa using hi) hms
          simp only [List.getElem_set_self, erase_set] at drp
          have en := endW0 { n with jobs := n.jobs.eraseIdx i } _ _ .nil j hj (hm'.le (by omega)) (by simp)
          try simp only at en
          simp -implicitDefEqProofs -dsimp +contextual (maxSteps := 9999999) (disch := first | omega | simp only [go_sem] <;> omega | refine ib ?_; kernel_rfl) only [go_sem, seval, ↓reduceIte, f0, f1, f4, f5, W1, W2, W3, W4, W5, ha, row, hw', k_rowsG, hi, drp, en]
          exact kb _ ⟨_, _, _, _, _, _, rfl, rfl, rfl, rfl, rfl, .inr ⟨rfl, rfl⟩⟩ (fun o ho => by repeat (first | exact hfr o ho | rw [Heap.set_ne _ _ (by omega)])) hw
        · have drp := dropW { n with jobs := n.jobs.set i j } _ _ (.us acts) i (by simpa using hi) hms
          simp only [List.getElem_set_self, erase_set] at drp
          have en := endW0 { n with jobs := n.jobs.eraseIdx i } _ _ (.us acts) j hj (hm'.le (by omega)) (by omega)
          try simp only at en
          simp -implicitDefEqProofs -dsimp +contextual (maxSteps := 9999999) (disch := first | omega | simp only [go_sem] <;> omega | refine ib ?_; kernel_rfl) only [go_sem, seval, ↓reduceIte, f0, f1, f4, f5, W1, W2, W3, W4, W5, ha, row, hw', k_rowsG, hi, drp, en, hX]
          exact kb _ ⟨_, _, _, _, _, _, rfl, rfl, rfl, rfl, rfl, .inr ⟨by simp, rfl⟩⟩ (fun o ho => by repeat (first | exact hfr o ho | rw [Heap.set_ne _ _ (by omega)])) hw
      · rw [tellR, if_neg hj] at kb
        obtain ⟨js, rs, hs⟩ := settle_eta { n with jobs := n.jobs.eraseIdx i } j.backJob j.item (!j.item.g) 0
        rcases hX with ⟨rfl, rfl⟩ | ⟨gx, rfl, hX⟩
        · have drp := dropW { n with jobs := n.jobs.set i j } _ _ .nil i (by simpa using hi) hms
          simp only [List.getElem_set_self, erase_set] at drp
          have en := endW1 { n with jobs := n.jobs.eraseIdx i } _ _ .nil j hj (hm'.le (by omega))
          try simp only at en
          rw [hs] at en kb
          try simp only at en kb
          simp -implicitDefEqProofs -dsimp +contextual (maxSteps := 9999999) (disch := first | omega | simp only [go_sem] <;> omega | refine ib ?_; kernel_rfl) only [go_sem, seval, ↓reduceIte, f0, f1, f4, f5, W1, W2, W3, W4, W5, ha, row, hw', k_rowsG, hi, drp, en]
          exact kb _ ⟨0, _, _, _, _, _, rfl, rfl, rfl, rfl, rfl, .inl ⟨rfl, rfl⟩⟩ (fun o ho => by repeat (first | exact hfr o ho | rw [Heap.set_ne _ _ (by omega)])) hw
        · have drp := dropW { n with jobs := n.jobs.set i j } _ _ (.us acts) i (by simpa using hi) hms
          simp only [List.getElem_set_self, erase_set] at drp
          have en := endW1 { n with jobs := n.jobs.eraseIdx i } _ _ (.us acts) j hj (hm'.le (by omega))
          try simp only at en
          rw [hs] at en kb
          try simp only at en kb
          rw [List.append_nil] at kb
          simp -implicitDefEqProofs -dsimp +contextual (maxSteps := 9999999) (disch := first | omega | simp only [go_sem] <;> omega | refine ib ?_; kernel_rfl) only [go_sem, seval, ↓reduceIte, f0, f1, f4, f5, W1, W2, W3, W4, W5, ha, row, hw', k_rowsG, hi, drp, en, hX]
          exact kb _ ⟨_, _, _, _, _, _, rfl, rfl, rfl, rfl, rfl, .inr ⟨rfl, rfl⟩⟩ (fun o ho => by repeat (first | exact hfr o ho | rw [Heap.set_ne _ _ (by omega)])) hw
theorem Find1N (j : Jb) (ha : j.asked = []) (id : Int) : fn C 211 [] [.agg [.int .i64 j.id, .int .i64 j.kind, .int .i64 j.phase, .int .i64 j.hops, .int .i64 j.tries, .int .i64 j.til, .str j.key, .str j.val, .str j.owner.name, .int .u64 (j.owner.id : Int), .int .i64 j.owner.fr, .int .i64 j.owner.un, .int .i64 j.owner.ix, .str j.owner.tag, .str j.item.k, .str j.item.v, .int .i64 j.item.n, .bool j.item.g, .int .i64 j.acks, .int .i64 j.waits, .slice 1 [], .str j.back.name, .int .u64 (j.back.id : Int), .int .i64 j.back.fr, .int .i64 j.back.un, .int .i64 j.back.ix, .str j.back.tag, .int .i64 j.backRid, .int .i64 j.backJob], .iptr [.int .i64 id]] = some (.bool (decide (j.id = id)), []) := by
  have := e211 j id
  rw [ha] at this
  exact this
theorem eIdxFindN (l : List Jb) (i : Nat) (hi : i < l.length) (ha : l[i].asked = []) (id : Int) (hl : l.length ≤ 9223372036854775807) : fn C 84 [] [.slice 29 (rowsG l i [.int .i64 l[i].id, .int .i64 l[i].kind, .int .i64 l[i].phase, .int .i64 l[i].hops, .int .i64 l[i].tries, .int .i64 l[i].til, .str l[i].key, .str l[i].val, .str l[i].owner.name, .int .u64 (l[i].owner.id : Int), .int .i64 l[i].owner.fr, .int .i64 l[i].owner.un, .int .i64 l[i].owner.ix, .str l[i].owner.tag, .str l[i].item.k, .str l[i].item.v, .int .i64 l[i].item.n, .bool l[i].item.g, .int .i64 l[i].acks, .int .i64 l[i].waits, .sc (.slice none 0 0), .str l[i].back.name, .int .u64 (l[i].back.id : Int), .int .i64 l[i].back.fr, .int .i64 l[i].back.un, .int .i64 l[i].back.ix, .str l[i].back.tag, .int .i64 l[i].backRid, .int .i64 l[i].backJob]), .fn (.func 211) [] [.iptr [.int .i64 id]]] = some (.int .i64 (findR l id), []) := by
  rw [fn_text Tryz.func84 rfl rfl Tryz.results84 fq84.1 rfl rfl (by kernel_rfl)]
  simp -implicitDefEqProofs -dsimp +contextual (maxSteps := 9999999) (disch := first | omega | simp only [go_sem] <;> omega | refine ib ?_; kernel_rfl) only [go_sem, seval, ↓reduceIte]
  refine kFor l.length (fun k f H => f 0 = .slice 29 (rowsG l i [.int .i64 l[i].id, .int .i64 l[i].kind, .int .i64 l[i].phase, .int .i64 l[i].hops, .int .i64 l[i].tries, .int .i64 l[i].til, .str l[i].key, .str l[i].val, .str l[i].owner.name, .int .u64 (l[i].owner.id : Int), .int .i64 l[i].owner.fr, .int .i64 l[i].owner.un, .int .i64 l[i].owner.ix, .str l[i].owner.tag, .str l[i].item.k, .str l[i].item.v, .int .i64 l[i].item.n, .bool l[i].item.g, .int .i64 l[i].acks, .int .i64 l[i].waits, .sc (.slice none 0 0), .str l[i].back.name, .int .u64 (l[i].back.id : Int), .int .i64 l[i].back.fr, .int .i64 l[i].back.un, .int .i64 l[i].back.ix, .str l[i].back.tag, .int .i64 l[i].backRid, .int .i64 l[i].backJob]) ∧ f 1 = .fn (.func 211) [] [.iptr [.int .i64 id]] ∧ f 7 = .int .i64 l.length ∧ f 8 = .int .i64 (k : Nat) ∧ H = Heap.nil ∧ (l.take k).any (jobAt id) = false) ?_ ?_ (by exact ⟨rfl, rfl, rfl, rfl, rfl, rfl⟩)
  · rintro k f _ hk ⟨f0, f1, f7, f8, rfl, hb⟩ ih
    by_cases he : k = i
    · subst he
      have row := rowsG_at hk [.int .i64 l[k].id, .int .i64 l[k].kind, .int .i64 l[k].phase, .int .i64 l[k].hops, .int .i64 l[k].tries, .int .i64 l[k].til, .str l[k].key, .str l[k].val, .str l[k].owner.name, .int .u64 (l[k].owner.id : Int), .int .i64 l[k].owner.fr, .int .i64 l[k].owner.un, .int .i64 l[k].owner.ix, .str l[k].owner.tag, .str l[k].item.k, .str l[k].item.v, .int .i64 l[k].item.n, .bool l[k].item.g, .int .i64 l[k].acks, .int .i64 l[k].waits, .sc (.slice none 0 0), .str l[k].back.name, .int .u64 (l[k].back.id : Int), .int .i64 l[k].back.fr, .int .i64 l[k].back.un, .int .i64 l[k].back.ix, .str l[k].back.tag, .int .i64 l[k].backRid, .int .i64 l[k].backJob]
      have f1n := Find1N l[k] ha id
      simp -implicitDefEqProofs -dsimp +contextual (maxSteps := 9999999) (disch := first | omega | simp only [go_sem] <;> omega | refine ib ?_; kernel_rfl) only [go_sem, seval, ↓reduceIte, f0, f1, f7, f8, hk, row, f1n]
      (repeat' (refine kD_intro (fun _ => ?_) (fun _ => ?_)))
      · rename_i h; rw [findR, placeG_at hk hb (by simp [jobAt, h])]
      · rename_i h; exact ih _ _ ⟨f0, f1, f7, rfl, rfl, any_take hk hb (by simp [jobAt, h])⟩
    · have row := rowsG_mid hk he [.int .i64 l[i].id, .int .i64 l[i].kind, .int .i64 l[i].phase, .int .i64 l[i].hops, .int .i64 l[i].tries, .int .i64 l[i].til, .str l[i].key, .str l[i].val, .str l[i].owner.name, .int .u64 (l[i].owner.id : Int), .int .i64 l[i].owner.fr, .int .i64 l[i].owner.un, .int .i64 l[i].owner.ix, .str l[i].owner.tag, .str l[i].item.k, .str l[i].item.v, .int .i64 l[i].item.n, .bool l[i].item.g, .int .i64 l[i].acks, .int .i64 l[i].waits, .sc (.slice none 0 0), .str l[i].back.name, .int .u64 (l[i].back.id : Int), .int .i64 l[i].back.fr, .int .i64 l[i].back.un, .int .i64 l[i].back.ix, .str l[i].back.tag, .int .i64 l[i].backRid, .int .i64 l[i].backJob]
      rw [Jb.cs_eq] at row
      simp -implicitDefEqProofs -dsimp +contextual (maxSteps := 9999999) (disch := first | omega | simp only [go_sem] <;> omega | refine ib ?_; kernel_rfl) only [go_sem, seval, ↓reduceIte, f0, f1, f7, f8, hk, row]
      (repeat' (refine kD_intro (fun _ => ?_) (fun _ => ?_)))
      · rename_i h; rw [findR, placeG_at hk hb (by simp [jobAt, h])]
      · rename_i h; exact ih _ _ ⟨f0, f1, f7, rfl, rfl, any_take hk hb (by simp [jobAt, h])⟩
  · rintro f _ ⟨f0, f1, f7, f8, rfl, hb⟩
    simp -implicitDefEqProofs -dsimp +contextual (maxSteps := 9999999) (disch := first | omega | simp only [go_sem] <;> omega | refine ib ?_; kernel_rfl) only [go_sem, seval, ↓reduceIte, f0, f1, f7, f8]
    rw [findR, placeG_none (any_end hb)]
theorem eFindN (l : List Jb) (i : Nat) (hi : i < l.length) (ha : l[i].asked = []) (id : Int) (hl : l.length ≤ 9223372036854775807) : fn C 150 [] [.slice 29 (rowsG l i [.int .i64 l[i].id, .int .i64 l[i].kind, .int .i64 l[i].phase, .int .i64 l[i].hops, .int .i64 l[i].tries, .int .i64 l[i].til, .str l[i].key, .str l[i].val, .str l[i].owner.name, .int .u64 (l[i].owner.id : Int), .int .i64 l[i].owner.fr, .int .i64 l[i].owner.un, .int .i64 l[i].owner.ix, .str l[i].owner.tag, .str l[i].item.k, .str l[i].item.v, .int .i64 l[i].item.n, .bool l[i].item.g, .int .i64 l[i].acks, .int .i64 l[i].waits, .sc (.slice none 0 0), .str l[i].back.name, .int .u64 (l[i].back.id : Int), .int .i64 l[i].back.fr, .int .i64 l[i].back.un, .int .i64 l[i].back.ix, .str l[i].back.tag, .int .i64 l[i].backRid, .int .i64 l[i].backJob]), .int .i64 id] = some (.int .i64 (findR l id), []) := by
  have e := eIdxFindN l i hi ha id hl
  rw [fn_text Tryz.func150 rfl rfl Tryz.results150 fq150.1 rfl rfl (by kernel_rfl)]
  simp -implicitDefEqProofs -dsimp +contextual (maxSteps := 9999999) (disch := first | omega | simp only [go_sem] <;> omega | refine ib ?_; kernel_rfl) only [go_sem, seval, ↓reduceIte, e]
theorem placeN (n : Nd) (A : AVal) (i : Nat) (hi : i < n.jobs.length) (ha : n.jobs[i].asked = []) (id : Int) (hc : copR n.jobs id = (i : Int)) (h : n.jobs.length ≤ 1000000) : fn C 224 [] [.iptr [.str n.me.name, .int .u64 (n.me.id : Int), .int .i64 n.me.fr, .int .i64 n.me.un, .int .i64 n.me.ix, .str n.me.tag, .int .i64 n.clock, .str n.psk, .int .i64 n.gateI, .str n.gateK, .bool n.ready, .slice 8 (n.pred.map Pr.cs), .slice 8 (n.list.map Pr.cs), .slice 9 (n.fingers.map Fg.cs), .slice 20 (n.sessions.map Se.cs), .slice 23 (n.pends.map Pd.cs), .slice 4 (n.items.map It.cs), .slice 29 (rowsG n.jobs i [.int .i64 n.jobs[i].id, .int .i64 n.jobs[i].kind, .int .i64 n.jobs[i].phase, .int .i64 n.jobs[i].hops, .int .i64 n.jobs[i].tries, .int .i64 n.jobs[i].til, .str n.jobs[i].key, .str n.jobs[i].val, .str n.jobs[i].owner.name, .int .u64 (n.jobs[i].owner.id : Int), .int .i64 n.jobs[i].owner.fr, .int .i64 n.jobs[i].owner.un, .int .i64 n.jobs[i].owner.ix, .str n.jobs[i].owner.tag, .str n.jobs[i].item.k, .str n.jobs[i].item.v, .int .i64 n.jobs[i].item.n, .bool n.jobs[i].item.g, .int .i64 n.jobs[i].acks, .int .i64 n.jobs[i].waits, .sc (.slice none 0 0), .str n.jobs[i].back.name, .int .u64 (n.jobs[i].back.id : Int), .int .i64 n.jobs[i].back.fr, .int .i64 n.jobs[i].back.un, .int .i64 n.jobs[i].back.ix, .str n.jobs[i].back.tag, .int .i64 n.jobs[i].backRid, .int .i64 n.jobs[i].backJob]), .int .i64 n.rid, .int .i64 n.jobId, .slice 1 (n.draws.map u64Row), .slice 8 (n.results.map Rs.cs), A], .int .i64 id] = some (.int .i64 (i : Nat), []) := by
  have hf : findR n.jobs id = (i : Int) := by
    unfold copR at hc; split at hc
    · exact hc
    · omega
  have hk : n.jobs[i].kind = 4 := by
    unfold copR at hc; split at hc
    · rename_i hk; rw [hf, Int.toNat_natCast, jobG_at hi] at hk; exact hk.2
    · omega
  have row := rowsG_at hi [.int .i64 n.jobs[i].id, .int .i64 n.jobs[i].kind, .int .i64 n.jobs[i].phase, .int .i64 n.jobs[i].hops, .int .i64 n.jobs[i].tries, .int .i64 n.jobs[i].til, .str n.jobs[i].key, .str n.jobs[i].val, .str n.jobs[i].owner.name, .int .u64 (n.jobs[i].owner.id : Int), .int .i64 n.jobs[i].owner.fr, .int .i64 n.jobs[i].owner.un, .int .i64 n.jobs[i].owner.ix, .str n.jobs[i].owner.tag, .str n.jobs[i].item.k, .str n.jobs[i].item.v, .int .i64 n.jobs[i].item.n, .bool n.jobs[i].item.g, .int .i64 n.jobs[i].acks, .int .i64 n.jobs[i].waits, .sc (.slice none 0 0), .str n.jobs[i].back.name, .int .u64 (n.jobs[i].back.id : Int), .int .i64 n.jobs[i].back.fr, .int .i64 n.jobs[i].back.un, .int .i64 n.jobs[i].back.ix, .str n.jobs[i].back.tag, .int .i64 n.jobs[i].backRid, .int .i64 n.jobs[i].backJob]
  have e := eFindN n.jobs i hi ha id (by omega)
  rw [hf] at e
  generalize rowsG n.jobs i [.int .i64 n.jobs[i].id, .int .i64 n.jobs[i].kind, .int .i64 n.jobs[i].phase, .int .i64 n.jobs[i].hops, .int .i64 n.jobs[i].tries, .int .i64 n.jobs[i].til, .str n.jobs[i].key, .str n.jobs[i].val, .str n.jobs[i].owner.name, .int .u64 (n.jobs[i].owner.id : Int), .int .i64 n.jobs[i].owner.fr, .int .i64 n.jobs[i].owner.un, .int .i64 n.jobs[i].owner.ix, .str n.jobs[i].owner.tag, .str n.jobs[i].item.k, .str n.jobs[i].item.v, .int .i64 n.jobs[i].item.n, .bool n.jobs[i].item.g, .int .i64 n.jobs[i].acks, .int .i64 n.jobs[i].waits, .sc (.slice none 0 0), .str n.jobs[i].back.name, .int .u64 (n.jobs[i].back.id : Int), .int .i64 n.jobs[i].back.fr, .int .i64 n.jobs[i].back.un, .int .i64 n.jobs[i].back.ix, .str n.jobs[i].back.tag, .int .i64 n.jobs[i].backRid, .int .i64 n.jobs[i].backJob] = RR at *
  rw [fn_text Tryz.func224 rfl rfl Tryz.results224 fq224.1 rfl rfl (by kernel_rfl)]
  simp -implicitDefEqProofs -dsimp +contextual (maxSteps := 9999999) (disch := first | omega | simp only [go_sem] <;> omega | refine ib ?_; kernel_rfl) only [go_sem, seval, ↓reduceIte, e, row, hk, Nat.not_lt_zero]
theorem erase_set' {α : Type} (l : List α) (i : Nat) (x : α) : (l.set i x).eraseIdx i = l.eraseIdx i := by
  rw [← erase_take, ← erase_take, List.take_set, List.drop_set_of_lt (by omega), List.set_eq_of_length_le (by simp; omega)]
theorem dropN (n : Nd) (i : Nat) (hi : i < n.jobs.length) (ha : n.jobs[i].asked = []) (h : n.mid 1000001) : fn C 213 [] [.uptr [.str n.me.name, .int .u64 (n.me.id : Int), .int .i64 n.me.fr, .int .i64 n.me.un, .int .i64 n.me.ix, .str n.me.tag, .int .i64 n.clock, .str n.psk, .int .i64 n.gateI, .str n.gateK, .bool n.ready, .slice 8 (n.pred.map Pr.cs), .slice 8 (n.list.map Pr.cs), .slice 9 (n.fingers.map Fg.cs), .usl 20 (n.sessions.map Se.cs), .usl 23 (n.pends.map Pd.cs), .slice 4 (n.items.map It.cs), .usl 29 (rowsG n.jobs i [.int .i64 n.jobs[i].id, .int .i64 n.jobs[i].kind, .int .i64 n.jobs[i].phase, .int .i64 n.jobs[i].hops, .int .i64 n.jobs[i].tries, .int .i64 n.jobs[i].til, .str n.jobs[i].key, .str n.jobs[i].val, .str n.jobs[i].owner.name, .int .u64 (n.jobs[i].owner.id : Int), .int .i64 n.jobs[i].owner.fr, .int .i64 n.jobs[i].owner.un, .int .i64 n.jobs[i].owner.ix, .str n.jobs[i].owner.tag, .str n.jobs[i].item.k, .str n.jobs[i].item.v, .int .i64 n.jobs[i].item.n, .bool n.jobs[i].item.g, .int .i64 n.jobs[i].acks, .int .i64 n.jobs[i].waits, .sc (.slice none 0 0), .str n.jobs[i].back.name, .int .u64 (n.jobs[i].back.id : Int), .int .i64 n.jobs[i].back.fr, .int .i64 n.jobs[i].back.un, .int .i64 n.jobs[i].back.ix, .str n.jobs[i].back.tag, .int .i64 n.jobs[i].backRid, .int .i64 n.jobs[i].backJob]), .int .i64 n.rid, .int .i64 n.jobId, .slice 1 (n.draws.map u64Row), .usl 8 (n.results.map Rs.cs), .sc (.slice none 0 0)], .int .i64 (i : Nat)] = some (.agg [.int .i64 n.jobs[i].id, .int .i64 n.jobs[i].kind, .int .i64 n.jobs[i].phase, .int .i64 n.jobs[i].hops, .int .i64 n.jobs[i].tries, .int .i64 n.jobs[i].til, .str n.jobs[i].key, .str n.jobs[i].val, .str n.jobs[i].owner.name, .int .u64 (n.jobs[i].owner.id : Int), .int .i64 n.jobs[i].owner.fr, .int .i64 n.jobs[i].owner.un, .int .i64 n.jobs[i].owner.ix, .str n.jobs[i].owner.tag, .str n.jobs[i].item.k, .str n.jobs[i].item.v, .int .i64 n.jobs[i].item.n, .bool n.jobs[i].item.g, .int .i64 n.jobs[i].acks, .int .i64 n.jobs[i].waits, .slice 1 (n.jobs[i].asked.map strRow), .str n.jobs[i].back.name, .int .u64 (n.jobs[i].back.id : Int), .int .i64 n.jobs[i].back.fr, .int .i64 n.jobs[i].back.un, .int .i64 n.jobs[i].back.ix, .str n.jobs[i].back.tag, .int .i64 n.jobs[i].backRid, .int .i64 n.jobs[i].backJob], [.uptr [.str n.me.name, .int .u64 (n.me.id : Int), .int .i64 n.me.fr, .int .i64 n.me.un, .int .i64 n.me.ix, .str n.me.tag, .int .i64 n.clock, .str n.psk, .int .i64 n.gateI, .str n.gateK, .bool n.ready, .slice 8 (n.pred.map Pr.cs), .slice 8 (n.list.map Pr.cs), .slice 9 (n.fingers.map Fg.cs), .usl 20 (n.sessions.map Se.cs), .usl 23 (n.pends.map Pd.cs), .slice 4 (n.items.map It.cs), .usl 29 ((n.jobs.eraseIdx i).map Jb.cs), .int .i64 n.rid, .int .i64 n.jobId, .slice 1 (n.draws.map u64Row), .usl 8 (n.results.map Rs.cs), .sc (.slice none 0 0)]]) := by
  have row := rowsG_at hi [.int .i64 n.jobs[i].id, .int .i64 n.jobs[i].kind, .int .i64 n.jobs[i].phase, .int .i64 n.jobs[i].hops, .int .i64 n.jobs[i].tries, .int .i64 n.jobs[i].til, .str n.jobs[i].key, .str n.jobs[i].val, .str n.jobs[i].owner.name, .int .u64 (n.jobs[i].owner.id : Int), .int .i64 n.jobs[i].owner.fr, .int .i64 n.jobs[i].owner.un, .int .i64 n.jobs[i].owner.ix, .str n.jobs[i].owner.tag, .str n.jobs[i].item.k, .str n.jobs[i].item.v, .int .i64 n.jobs[i].item.n, .bool n.jobs[i].item.g, .int .i64 n.jobs[i].acks, .int .i64 n.jobs[i].waits, .sc (.slice none 0 0), .str n.jobs[i].back.name, .int .u64 (n.jobs[i].back.id : Int), .int .i64 n.jobs[i].back.fr, .int .i64 n.jobs[i].back.un, .int .i64 n.jobs[i].back.ix, .str n.jobs[i].back.tag, .int .i64 n.jobs[i].backRid, .int .i64 n.jobs[i].backJob]
  have jl := h.jl
  have cl : (rowsG n.jobs i [.int .i64 n.jobs[i].id, .int .i64 n.jobs[i].kind, .int .i64 n.jobs[i].phase, .int .i64 n.jobs[i].hops, .int .i64 n.jobs[i].tries, .int .i64 n.jobs[i].til, .str n.jobs[i].key, .str n.jobs[i].val, .str n.jobs[i].owner.name, .int .u64 (n.jobs[i].owner.id : Int), .int .i64 n.jobs[i].owner.fr, .int .i64 n.jobs[i].owner.un, .int .i64 n.jobs[i].owner.ix, .str n.jobs[i].owner.tag, .str n.jobs[i].item.k, .str n.jobs[i].item.v, .int .i64 n.jobs[i].item.n, .bool n.jobs[i].item.g, .int .i64 n.jobs[i].acks, .int .i64 n.jobs[i].waits, .sc (.slice none 0 0), .str n.jobs[i].back.name, .int .u64 (n.jobs[i].back.id : Int), .int .i64 n.jobs[i].back.fr, .int .i64 n.jobs[i].back.un, .int .i64 n.jobs[i].back.ix, .str n.jobs[i].back.tag, .int .i64 n.jobs[i].backRid, .int .i64 n.jobs[i].backJob]).all clos = true := List.all_eq_true.2 fun r hr => by
    rcases List.mem_or_eq_of_mem_set hr with h1 | rfl
    · exact List.all_eq_true.1 (Jb_clos n.jobs) r h1
    · rfl
  have on : ones (rowsG n.jobs i [.int .i64 n.jobs[i].id, .int .i64 n.jobs[i].kind, .int .i64 n.jobs[i].phase, .int .i64 n.jobs[i].hops, .int .i64 n.jobs[i].tries, .int .i64 n.jobs[i].til, .str n.jobs[i].key, .str n.jobs[i].val, .str n.jobs[i].owner.name, .int .u64 (n.jobs[i].owner.id : Int), .int .i64 n.jobs[i].owner.fr, .int .i64 n.jobs[i].owner.un, .int .i64 n.jobs[i].owner.ix, .str n.jobs[i].owner.tag, .str n.jobs[i].item.k, .str n.jobs[i].item.v, .int .i64 n.jobs[i].item.n, .bool n.jobs[i].item.g, .int .i64 n.jobs[i].acks, .int .i64 n.jobs[i].waits, .sc (.slice none 0 0), .str n.jobs[i].back.name, .int .u64 (n.jobs[i].back.id : Int), .int .i64 n.jobs[i].back.fr, .int .i64 n.jobs[i].back.un, .int .i64 n.jobs[i].back.ix, .str n.jobs[i].back.tag, .int .i64 n.jobs[i].backRid, .int .i64 n.jobs[i].backJob]) = true := List.all_eq_true.2 fun r hr => by
    rcases List.mem_or_eq_of_mem_set hr with h1 | rfl
    · exact List.all_eq_true.1 (Jb_ones n.jobs) r h1
    · rfl
  have del := eDelJob (rowsG n.jobs i [.int .i64 n.jobs[i].id, .int .i64 n.jobs[i].kind, .int .i64 n.jobs[i].phase, .int .i64 n.jobs[i].hops, .int .i64 n.jobs[i].tries, .int .i64 n.jobs[i].til, .str n.jobs[i].key, .str n.jobs[i].val, .str n.jobs[i].owner.name, .int .u64 (n.jobs[i].owner.id : Int), .int .i64 n.jobs[i].owner.fr, .int .i64 n.jobs[i].owner.un, .int .i64 n.jobs[i].owner.ix, .str n.jobs[i].owner.tag, .str n.jobs[i].item.k, .str n.jobs[i].item.v, .int .i64 n.jobs[i].item.n, .bool n.jobs[i].item.g, .int .i64 n.jobs[i].acks, .int .i64 n.jobs[i].waits, .sc (.slice none 0 0), .str n.jobs[i].back.name, .int .u64 (n.jobs[i].back.id : Int), .int .i64 n.jobs[i].back.fr, .int .i64 n.jobs[i].back.un, .int .i64 n.jobs[i].back.ix, .str n.jobs[i].back.tag, .int .i64 n.jobs[i].backRid, .int .i64 n.jobs[i].backJob]) i (by simp [rowsG]; exact hi) (by simp [rowsG]; omega) cl on
  rw [show (rowsG n.jobs i [.int .i64 n.jobs[i].id, .int .i64 n.jobs[i].kind, .int .i64 n.jobs[i].phase, .int .i64 n.jobs[i].hops, .int .i64 n.jobs[i].tries, .int .i64 n.jobs[i].til, .str n.jobs[i].key, .str n.jobs[i].val, .str n.jobs[i].owner.name, .int .u64 (n.jobs[i].owner.id : Int), .int .i64 n.jobs[i].owner.fr, .int .i64 n.jobs[i].owner.un, .int .i64 n.jobs[i].owner.ix, .str n.jobs[i].owner.tag, .str n.jobs[i].item.k, .str n.jobs[i].item.v, .int .i64 n.jobs[i].item.n, .bool n.jobs[i].item.g, .int .i64 n.jobs[i].acks, .int .i64 n.jobs[i].waits, .sc (.slice none 0 0), .str n.jobs[i].back.name, .int .u64 (n.jobs[i].back.id : Int), .int .i64 n.jobs[i].back.fr, .int .i64 n.jobs[i].back.un, .int .i64 n.jobs[i].back.ix, .str n.jobs[i].back.tag, .int .i64 n.jobs[i].backRid, .int .i64 n.jobs[i].backJob]).eraseIdx i = (n.jobs.eraseIdx i).map Jb.cs from by unfold rowsG; rw [erase_set', erase_map]] at del
  rw [fn_text Tryz.func213 rfl rfl Tryz.results213 fq213.1 rfl rfl (by kernel_rfl)]
  simp -implicitDefEqProofs -dsimp +contextual (maxSteps := 9999999) (disch := first | omega | simp only [go_sem] <;> omega | refine ib ?_; kernel_rfl) only [go_sem, seval, ↓reduceIte, row, del, hi, cl]
  rw [ha]
  rfl
def AskB (H : Heap) (A : AVal) (l : List (List UInt8)) : Prop := ∃ g, A = .osl 80167 g 0 l.length ∧ H 80167 = ⟨g, .live, 1, l.map strRow, false⟩
theorem il_moreN (g : Int) (n : Nd) (id : Int) (i c : Nat) (j0 : Jb) (hi : i < n.jobs.length) (hj0 : n.jobs[i] = j0) (hcop : copR n.jobs id = (i : Int)) (h : n.mid 100000) (ha0 : j0.asked = []) (hk0 : j0.acks = 0) (hw0 : j0.waits = 0) (H : Heap) (hM : MoreS H n i c j0 (.sc (.slice none 0 0)) (.sc (.slice none 0 0)))
    (K : AVal × Heap → Option Res) (R : Option Res) (q : Jb × List Ac) (hq : askR id n.list j0 = q)
    (ka : ∀ H' A X, MoreS H' n i c q.1 A X → AskB H' A q.1.asked → ActS H' X q.2 → (∀ o, o < 40000 → H' o = H o) → 0 < q.1.waits → K (.tup [], H') = R)
    (kb : ∀ H', WorkAt 40106 (moreFin n i q).1 (moreFin n i q).2 H' → (∀ o, o < 40000 → H' o = H o) → ¬ 0 < q.1.waits → K (.tup [], H') = R) :
    @kB _ _ (il (C1 g) 168 [.ptr 40106 1 0 0, .int .i64 id] H) ⟨K⟩ = R := by
  obtain ⟨W1, W2, W3, W4, W5⟩ := hM
  have jl := h.jl
  have ll := h.ll
  have pl := placeN n (.sc (.slice none 0 0)) i hi (by rw [hj0, ha0]) id hcop (by omega)
  rw [hj0] at pl
  have row := rowsG_at (R := [.int .i64 j0.id, .int .i64 j0.kind, .int .i64 j0.phase, .int .i64 j0.hops, .int .i64 j0.tries, .int .i64 j0.til, .str j0.key, .str j0.val, .str j0.owner.name, .int .u64 (j0.owner.id : Int), .int .i64 j0.owner.fr, .int .i64 j0.owner.un, .int .i64 j0.owner.ix, .str j0.owner.tag, .str j0.item.k, .str j0.item.v, .int .i64 j0.item.n, .bool j0.item.g, .int .i64 j0.acks, .int .i64 j0.waits, .sc (.slice none 0 0), .str j0.back.name, .int .u64 (j0.back.id : Int), .int .i64 j0.back.fr, .int .i64 j0.back.un, .int .i64 j0.back.ix, .str j0.back.tag, .int .i64 j0.backRid, .int .i64 j0.backJob]) hi
  rw [il_text (C := C1 g) Tryz.func168 rfl Tryz.results168 (show (C1 g).M.loc 168 = _ from fq168.1) (by kernel_rfl)]
  simp -implicitDefEqProofs -dsimp +contextual (maxSteps := 9999999) (disch := first | omega | simp only [go_sem] <;> omega | refine ib ?_; kernel_rfl) only [go_sem, seval, ↓reduceIte, W1, W2, W3, W4, W5, pl, k_rowsG, hi, row, Nat.not_lt_zero]
  clear pl row
  refine kLoop_out (.exit 0) (fun f H' => f 0 = .ptr 40106 1 0 0 ∧ f 1 = .int .i64 id ∧ f 4 = .int .i64 (i : Nat) ∧ f 5 = .ptr 60130 c i 0 ∧ q.1.asked.length ≤ 200000 ∧ q.2.length ≤ 100000 ∧ (∀ o, o < 40000 → H' o = H o) ∧ ∃ A X, MoreS H' n i c q.1 A X ∧ ((q = (j0, []) ∧ A = .sc (.slice none 0 0) ∧ X = .sc (.slice none 0 0)) ∨ (AskB H' A q.1.asked ∧ ActS H' X q.2))) ?_ ?_
  · intro Q hQ
    refine kLoop_rec (fun (a : Nat × Jb × List Ac) f H' => a.1 ≤ n.list.length ∧ AskI id (n.list.drop a.1) a.2.1 a.2.2 q ∧ a.2.1.asked.length ≤ 100000 + a.1 ∧ a.2.2.length ≤ a.1 ∧ f 0 = .ptr 40106 1 0 0 ∧ f 1 = .int .i64 id ∧ f 4 = .int .i64 (i : Nat) ∧ f 5 = .ptr 60130 c i 0 ∧ f 25 = .slice 8 (n.list.map Pr.cs) ∧ f 26 = .int .i64 (n.list.length : Nat) ∧ f 27 = .int .i64 (a.1 : Nat) ∧
      (∀ o, o < 40000 → H' o = H o) ∧ ∃ A X, MoreS H' n i c a.2.1 A X ∧ ((a = (0, j0, []) ∧ A = .sc (.slice none 0 0) ∧ X = .sc (.slice none 0 0)) ∨ (AskB H' A a.2.1.asked ∧ ActS H' X a.2.2))) (fun a => n.list.length - a.1) (fun _ => R) ?_ (0, j0, []) _ _ (by exact ⟨Nat.zero_le _, ⟨by rw [List.drop_zero, hq], by rw [List.drop_zero, hq]; rfl⟩, by rw [ha0]; exact Nat.zero_le _, Nat.le_refl _, rfl, rfl, rfl, rfl, rfl, rfl, rfl, fun o ho => rfl, _, _, ⟨W1, W2, W3, W4, W5⟩, .inl ⟨rfl, rfl, rfl⟩⟩)
    clear W1 W2 W3 W4 W5
    rintro ⟨k, j, acts⟩ f H' ⟨hk, hI, hal2, hac, f0, f1, f4, f5, f25, f26, f27, hfr, A, X, ⟨W1, W2, W3, W4, W5⟩, hAX⟩ ih
    try simp only at hk hI hal2 hac f27 W1 W4 hAX ih
    have row := fun R => rowsG_at (R := R) hi
    by_cases hl : k < n.list.length
    · rcases hAX with ⟨he, rfl, rfl⟩ | ⟨⟨ga, rfl, ha⟩, hX⟩
      · have prow := pr_row n.list k hl
        obtain ⟨rfl, rfl, rfl⟩ : k = 0 ∧ j = j0 ∧ acts = [] := by simpa using he
        rw [List.drop_eq_getElem_cons hl] at hI
        have hfu : ¬ 2 ≤ fewR j.acks + fewR j.waits := by rw [hk0, hw0]; decide
        have b1 := fewR_b j.acks
        have b2 := fewR_b j.waits
        have hI' := hI.go hfu (by rw [ha0]; simp)
        have nm := e226 [] n.list[0].e.name (by simp)
        rw [decide_eq_false (by simp)] at nm
        simp only [List.map_nil] at nm
        have ih' := ih (0 + 1, { j with waits := fewR j.waits + 1, asked := j.asked ++ [n.list[0].e.name] }, [] ++ [copyA n.list[0].e j.item id])
        try simp only at ih'
        clear ih
        simp -implicitDefEqProofs -dsimp +contextual (maxSteps := 9999999) (disch := first | omega | simp only [go_sem] <;> omega | refine ib ?_; kernel_rfl) only [go_sem, seval, ↓reduceIte, f0, f1, f4, f5, f25, f26, f27, hl, prow, W1, W2, W3, W4, W5, row, hfu, nm]
        refine ih' _ _ ?_ (by omega)
        refine ⟨hl, hI', by simp [ha0], by simp, f0, f1, f4, f5, f25, f26, rfl, fun o ho => by repeat (first | exact hfr o ho | rw [Heap.set_ne _ _ (by omega)]), _, _, ⟨rfl, W2, W3, rfl, W5⟩, .inr ⟨⟨(H' 80167).gen + 1, by rw [ha0]; rfl, by rw [ha0]; rfl⟩, .inr ⟨(H' 80189).gen + 1, rfl, rfl⟩⟩⟩
      have prow := pr_row n.list k hl
      rw [List.drop_eq_getElem_cons hl] at hI
      have b1 := fewR_b j.acks
      have b2 := fewR_b j.waits
      by_cases hfu : 2 ≤ fewR j.acks + fewR j.waits
      · obtain rfl := hI.full (l' := []) hfu
        clear ih
        simp -implicitDefEqProofs -dsimp +contextual (maxSteps := 9999999) (disch := first | omega | simp only [go_sem] <;> omega | refine ib ?_; kernel_rfl) only [go_sem, seval, ↓reduceIte, f0, f1, f4, f5, f25, f26, f27, hl, prow, W1, W2, W3, W4, W5, ha, row, hfu]
        exact hQ _ _ ⟨f0, f1, f4, f5, by simp only; omega, by simp only; omega, fun o ho => by repeat (first | exact hfr o ho | rw [Heap.set_ne _ _ (by omega)]), _, _, ⟨W1, W2, W3, W4, W5⟩, .inr ⟨⟨ga, rfl, ha⟩, hX⟩⟩
      · by_cases hm : n.list[k].e.name ∈ j.asked
        · have hI' := hI.skip hfu hm
          have nm := e226 j.asked n.list[k].e.name (by omega)
          rw [decide_eq_true hm] at nm
          have ih' := ih (k + 1, j, acts)
          try simp only at ih'
          clear ih
          simp -implicitDefEqProofs -dsimp +contextual (maxSteps := 9999999) (disch := first | omega | simp only [go_sem] <;> omega | refine ib ?_; kernel_rfl) only [go_sem, seval, ↓reduceIte, f0, f1, f4, f5, f25, f26, f27, hl, prow, W1, W2, W3, W4, W5, ha, row, hfu, nm]
          refine ih' _ _ ?_ (by omega)
          exact ⟨hl, hI', by omega, by omega, f0, f1, f4, f5, f25, f26, rfl, fun o ho => by repeat (first | exact hfr o ho | rw [Heap.set_ne _ _ (by omega)]), _, _, ⟨W1, W2, W3, W4, W5⟩, .inr ⟨⟨ga, rfl, ha⟩, hX⟩⟩
        · have hI' := hI.go hfu hm
          have nm := e226 j.asked n.list[k].e.name (by omega)
          rw [decide_eq_false hm] at nm
          have ih' := ih (k + 1, { j with waits := fewR j.waits + 1, asked := j.asked ++ [n.list[k].e.name] }, acts ++ [copyA n.list[k].e j.item id])
          try simp only at ih'
          clear ih
          rcases hX with ⟨rfl, rfl⟩ | ⟨gx, rfl, hX⟩
          · simp -implicitDefEqProofs -dsimp +contextual (maxSteps := 9999999) (disch := first | omega | simp only [go_sem] <;> omega | refine ib ?_; kernel_rfl) only [go_sem, seval, ↓reduceIte, f0, f1, f4, f5, f25, f26, f27, hl, prow, W1, W2, W3, W4, W5, ha, row, hfu, nm, hal2]
            refine ih' _ _ ?_ (by omega)
            refine ⟨hl, hI', by simp; omega, by simp, f0, f1, f4, f5, f25, f26, rfl, fun o ho => by repeat (first | exact hfr o ho | rw [Heap.set_ne _ _ (by omega)]), _, _, ⟨rfl, W2, W3, rfl, W5⟩, .inr ⟨⟨ga + 1, by simp, by rw [List.map_append]; rfl⟩, .inr ⟨(H' 80189).gen + 1, rfl, rfl⟩⟩⟩
          · simp -implicitDefEqProofs -dsimp +contextual (maxSteps := 9999999) (disch := first | omega | simp only [go_sem] <;> omega | refine ib ?_; kernel_rfl) only [go_sem, seval, ↓reduceIte, f0, f1, f4, f5, f25, f26, f27, hl, prow, W1, W2, W3, W4, W5, ha, hX, row, hfu, nm, hal2]
            refine ih' _ _ ?_ (by omega)
            refine ⟨hl, hI', by simp; omega, by simp; omega, f0, f1, f4, f5, f25, f26, rfl, fun o ho => by repeat (first | exact hfr o ho | rw [Heap.set_ne _ _ (by omega)]), _, _, ⟨rfl, W2, W3, rfl, W5⟩, .inr ⟨⟨ga + 1, by simp, by rw [List.map_append]; rfl⟩, .inr ⟨gx + 1, by simp, by rw [List.map_append]; rfl⟩⟩⟩
    · obtain rfl : k = n.list.length := by omega
      rw [List.drop_length] at hI
      obtain rfl := hI.done
      clear ih
      rcases hAX with ⟨he, rfl, rfl⟩ | ⟨⟨ga, rfl, ha⟩, hX⟩
      · obtain ⟨h0, rfl, rfl⟩ : n.list.length = 0 ∧ j = j0 ∧ acts = [] := by simpa using he
        simp -implicitDefEqProofs -dsimp +contextual (maxSteps := 9999999) (disch := first | omega | simp only [go_sem] <;> omega | refine ib ?_; kernel_rfl) only [go_sem, seval, ↓reduceIte, f0, f1, f4, f5, f25, f26, f27, W1, W2, W3, W4, W5, row]
        exact hQ _ _ ⟨f0, f1, f4, f5, by simp only; omega, by simp only; omega, hfr, _, _, ⟨W1, W2, W3, W4, W5⟩, .inl ⟨rfl, rfl, rfl⟩⟩
      · simp -implicitDefEqProofs -dsimp +contextual (maxSteps := 9999999) (disch := first | omega | simp only [go_sem] <;> omega | refine ib ?_; kernel_rfl) only [go_sem, seval, ↓reduceIte, f0, f1, f4, f5, f25, f26, f27, W1, W2, W3, W4, W5, ha, row]
        exact hQ _ _ ⟨f0, f1, f4, f5, by simp only; omega, by simp only; omega, hfr, _, _, ⟨W1, W2, W3, W4, W5⟩, .inr ⟨⟨ga, rfl, ha⟩, hX⟩⟩
  · clear W1 W2 W3 W4 W5
    obtain ⟨j, acts⟩ := q
    rintro f H' ⟨f0, f1, f4, f5, hjl, hql, hfr, A, X, ⟨W1, W2, W3, W4, W5⟩, hAX⟩
    try simp only at W4 hAX ka kb hjl hql
    have row := fun R => rowsG_at (R := R) hi
    rcases hAX with ⟨he, rfl, rfl⟩ | ⟨⟨ga, rfl, ha⟩, hX⟩
    · obtain ⟨rfl, rfl⟩ : j = j0 ∧ acts = [] := by simpa using he
      have hw : ¬ 0 < j.waits := by omega
      have hw' : j.waits ≤ 0 := by omega
      have hmf : moreFin n i (j, []) = ((tellR { n with jobs := n.jobs.eraseIdx i } j.back j.backRid j.backJob j.item (!j.item.g) 0).1, [] ++ (tellR { n with jobs := n.jobs.eraseIdx i } j.back j.backRid j.backJob j.item (!j.item.g) 0).2) := by unfold moreFin; rw [if_neg hw]
      rw [hmf, List.nil_append] at kb
      clear hmf ka
      have hm' := mid_erase i h
      have drp := dropN n i hi (by rw [hj0, ha0]) (h.le (by omega))
      rw [hj0] at drp
      simp only [ha0, List.map_nil] at drp
      by_cases hj : j.backJob = 0
      · rw [tellR, if_pos hj] at kb
        have en := endW0 { n with jobs := n.jobs.eraseIdx i } _ _ .nil j hj (hm'.le (by omega)) (by simp)
        simp only [ha0, List.map_nil] at en
        simp -implicitDefEqProofs -dsimp +contextual (maxSteps := 9999999) (disch := first | omega | simp only [go_sem] <;> omega | refine ib ?_; kernel_rfl) only [go_sem, seval, ↓reduceIte, f0, f1, f4, f5, W1, W2, W3, W4, W5, row, hw', k_rowsG, hi, drp, en]
        exact kb _ ⟨_, _, _, _, _, _, rfl, rfl, rfl, rfl, rfl, .inr ⟨rfl, rfl⟩⟩ (fun o ho => by repeat (first | exact hfr o ho | rw [Heap.set_ne _ _ (by omega)])) hw
      · rw [tellR, if_neg hj] at kb
        obtain ⟨js, rs, hs⟩ := settle_eta { n with jobs := n.jobs.eraseIdx i } j.backJob j.item (!j.item.g) 0
        have en := endW1 { n with jobs := n.jobs.eraseIdx i } _ _ .nil j hj (hm'.le (by omega))
        simp only [ha0, List.map_nil] at en
        rw [hs] at en kb
        try simp only at en kb
        simp -implicitDefEqProofs -dsimp +contextual (maxSteps := 9999999) (disch := first | omega | simp only [go_sem] <;> omega | refine ib ?_; kernel_rfl) only [go_sem, seval, ↓reduceIte, f0, f1, f4, f5, W1, W2, W3, W4, W5, row, hw', k_rowsG, hi, drp, en]
        exact kb _ ⟨0, _, _, _, _, _, rfl, rfl, rfl, rfl, rfl, .inl ⟨rfl, rfl⟩⟩ (fun o ho => by repeat (first | exact hfr o ho | rw [Heap.set_ne _ _ (by omega)])) hw
    by_cases hw : 0 < j.waits
    · have hw' : ¬ j.waits ≤ 0 := by omega
      simp -implicitDefEqProofs -dsimp +contextual (maxSteps := 9999999) (disch := first | omega | simp only [go_sem] <;> omega | refine ib ?_; kernel_rfl) only [go_sem, seval, ↓reduceIte, f0, f1, f4, f5, W1, W2, W3, W4, W5, ha, row, hw']
      exact ka H' _ _ ⟨W1, W2, W3, W4, W5⟩ ⟨ga, rfl, ha⟩ hX hfr hw
    · have hw' : j.waits ≤ 0 := by omega
      have hmf : moreFin n i (j, acts) = ((tellR { n with jobs := n.jobs.eraseIdx i } j.back j.backRid j.backJob j.item (!j.item.g) 0).1, acts ++ (tellR { n with jobs := n.jobs.eraseIdx i } j.back j.backRid j.backJob j.item (!j.item.g) 0).2) := by unfold moreFin; rw [if_neg hw]
      rw [hmf] at kb
      clear hmf ka
      have hm' := mid_erase i h
      have hms : ({ n with jobs := n.jobs.set i j } : Nd).mid 1000001 := mid_set i j (h.le (by omega)) (by omega)
      by_cases hj : j.backJob = 0
      · rw [tellR, if_pos hj] at kb
        rcases hX with ⟨rfl, rfl⟩ | ⟨gx, rfl, hX⟩
        · have drp := dropW { n with jobs := n.jobs.set i j } _ _ .nil i (by simpa using hi) hms
          simp only [List.getElem_set_self, erase_set] at drp
          have en := endW0 { n with jobs := n.jobs.eraseIdx i } _ _ .nil j hj (hm'.le (by omega)) (by simp)
          try simp only at en
          simp -implicitDefEqProofs -dsimp +contextual (maxSteps := 9999999) (disch := first | omega | simp only [go_sem] <;> omega | refine ib ?_; kernel_rfl) only [go_sem, seval, ↓reduceIte, f0, f1, f4, f5, W1, W2, W3, W4, W5, ha, row, hw', k_rowsG, hi, drp, en]
          exact kb _ ⟨_, _, _, _, _, _, rfl, rfl, rfl, rfl, rfl, .inr ⟨rfl, rfl⟩⟩ (fun o ho => by repeat (first | exact hfr o ho | rw [Heap.set_ne _ _ (by omega)])) hw
        · have drp := dropW { n with jobs := n.jobs.set i j } _ _ (.us acts) i (by simpa using hi) hms
          simp only [List.getElem_set_self, erase_set] at drp
          have en := endW0 { n with jobs := n.jobs.eraseIdx i } _ _ (.us acts) j hj (hm'.le (by omega)) (by omega)
          try simp only at en
          simp -implicitDefEqProofs -dsimp +contextual (maxSteps := 9999999) (disch := first | omega | simp only [go_sem] <;> omega | refine ib ?_; kernel_rfl) only [go_sem, seval, ↓reduceIte, f0, f1, f4, f5, W1, W2, W3, W4, W5, ha, row, hw', k_rowsG, hi, drp, en, hX]
          exact kb _ ⟨_, _, _, _, _, _, rfl, rfl, rfl, rfl, rfl, .inr ⟨by simp, rfl⟩⟩ (fun o ho => by repeat (first | exact hfr o ho | rw [Heap.set_ne _ _ (by omega)])) hw
      · rw [tellR, if_neg hj] at kb
        obtain ⟨js, rs, hs⟩ := settle_eta { n with jobs := n.jobs.eraseIdx i } j.backJob j.item (!j.item.g) 0
        rcases hX with ⟨rfl, rfl⟩ | ⟨gx, rfl, hX⟩
        · have drp := dropW { n with jobs := n.jobs.set i j } _ _ .nil i (by simpa using hi) hms
          simp only [List.getElem_set_self, erase_set] at drp
          have en := endW1 { n with jobs := n.jobs.eraseIdx i } _ _ .nil j hj (hm'.le (by omega))
          try simp only at en
          rw [hs] at en kb
          try simp only at en kb
          simp -implicitDefEqProofs -dsimp +contextual (maxSteps := 9999999) (disch := first | omega | simp only [go_sem] <;> omega | refine ib ?_; kernel_rfl) only [go_sem, seval, ↓reduceIte, f0, f1, f4, f5, W1, W2, W3, W4, W5, ha, row, hw', k_rowsG, hi, drp, en]
          exact kb _ ⟨0, _, _, _, _, _, rfl, rfl, rfl, rfl, rfl, .inl ⟨rfl, rfl⟩⟩ (fun o ho => by repeat (first | exact hfr o ho | rw [Heap.set_ne _ _ (by omega)])) hw
        · have drp := dropW { n with jobs := n.jobs.set i j } _ _ (.us acts) i (by simpa using hi) hms
          simp only [List.getElem_set_self, erase_set] at drp
          have en := endW1 { n with jobs := n.jobs.eraseIdx i } _ _ (.us acts) j hj (hm'.le (by omega))
          try simp only at en
          rw [hs] at en kb
          try simp only at en kb
          rw [List.append_nil] at kb
          simp -implicitDefEqProofs -dsimp +contextual (maxSteps := 9999999) (disch := first | omega | simp only [go_sem] <;> omega | refine ib ?_; kernel_rfl) only [go_sem, seval, ↓reduceIte, f0, f1, f4, f5, W1, W2, W3, W4, W5, ha, row, hw', k_rowsG, hi, drp, en, hX]
          exact kb _ ⟨_, _, _, _, _, _, rfl, rfl, rfl, rfl, rfl, .inr ⟨rfl, rfl⟩⟩ (fun o ho => by repeat (first | exact hfr o ho | rw [Heap.set_ne _ _ (by omega)])) hw
@[go_sem] theorem nlDone : M.nl 166 = [] := Eq.trans rfl rfl
@[go_sem] theorem nlCame : M.nl 203 = [] := Eq.trans rfl rfl
def ndRes (q : Nd × List Ac) : Option Res := some (.tup [.agg q.1.ocs, .usl 20 (q.2.map Ac.cs)], [])
theorem copR_cases (l : List Jb) (id : Int) : (∃ i : Nat, i < l.length ∧ copR l id = (i : Int)) ∨ copR l id = -1 := by
  rcases findR_cases l id with ⟨i, hi, hid, _, hf⟩ | ⟨_, hf⟩
  · by_cases hk : l[i].kind = 4
    · exact .inl ⟨i, hi, copR_at hi hf hk⟩
    · exact .inr (copR_kind hi hf hk)
  · exact .inr (copR_none hf)
theorem moreR_none {n : Nd} {id : Int} (h : copR n.jobs id = -1) : moreR n id = (n, []) := by
  unfold moreR; rw [h, if_neg (by omega)]
theorem moreR_at {n : Nd} {id : Int} {i : Nat} (hi : i < n.jobs.length) (h : copR n.jobs id = (i : Int)) : moreR n id = moreFin n i (askR id n.list n.jobs[i]) := by
  unfold moreR moreAt; rw [h, if_pos (by omega), Int.toNat_natCast, jobG_at hi]
theorem il_more_none (g : Int) (n : Nd) (id : Int) (c : Nat) (hcop : copR n.jobs id = -1) (h : n.mid 100000) (H : Heap)
    (W1 : H 40106 = ⟨1, .live, 23, [[.str n.me.name, .int .u64 (n.me.id : Int), .int .i64 n.me.fr, .int .i64 n.me.un, .int .i64 n.me.ix, .str n.me.tag, .int .i64 n.clock, .str n.psk, .int .i64 n.gateI, .str n.gateK, .bool n.ready, .slice 8 (n.pred.map Pr.cs), .slice 8 (n.list.map Pr.cs), .slice 9 (n.fingers.map Fg.cs), .osl 60118 1 0 n.sessions.length, .osl 60121 1 0 n.pends.length, .slice 4 (n.items.map It.cs), .osl 60130 c 0 n.jobs.length, .int .i64 n.rid, .int .i64 n.jobId, .slice 1 (n.draws.map u64Row), .osl 60136 1 0 n.results.length, .sc (.slice none 0 0)]], false⟩)
    (W2 : H 60118 = ⟨1, .live, 20, n.sessions.map Se.cs, false⟩) (W3 : H 60121 = ⟨1, .live, 23, n.pends.map Pd.cs, false⟩) (W4 : H 60130 = ⟨c, .live, 29, n.jobs.map Jb.cs, false⟩) (W5 : H 60136 = ⟨1, .live, 8, n.results.map Rs.cs, false⟩)
    (K : AVal × Heap → Option Res) (R : Option Res) (k : K (.tup [], H) = R) : @kB _ _ (il (C1 g) 168 [.ptr 40106 1 0 0, .int .i64 id] H) ⟨K⟩ = R := by
  have jl := h.jl
  have pl := placeI n (.sc (.slice none 0 0)) id (by omega)
  rw [hcop] at pl
  rw [il_text (C := C1 g) Tryz.func168 rfl Tryz.results168 (show (C1 g).M.loc 168 = _ from fq168.1) (by kernel_rfl)]
  simp -implicitDefEqProofs -dsimp +contextual (maxSteps := 9999999) (disch := first | omega | simp only [go_sem] <;> omega | refine ib ?_; kernel_rfl) only [go_sem, seval, ↓reduceIte, W1, W2, W3, W4, W5, pl]
  exact k
theorem Jb_app (n : Nd) (x : It) (back : En) (rid job : Int) : n.jobs.map Jb.cs ++ [[.int .i64 (nextI n.jobId), .int .i64 4, .int .i64 0, .int .i64 0, .int .i64 0, .int .i64 (n.clock + 192), .str [], .str [], .str [], .int .u64 0, .int .i64 0, .int .i64 0, .int .i64 0, .str [], .str x.k, .str x.v, .int .i64 x.n, .bool x.g, .int .i64 0, .int .i64 0, .slice 1 [], .str back.name, .int .u64 (back.id : Int), .int .i64 back.fr, .int .i64 back.un, .int .i64 back.ix, .str back.tag, .int .i64 rid, .int .i64 job]] = (n.jobs ++ [copyJ n x back rid job]).map Jb.cs := by rw [List.map_append]; rfl
theorem Jb_appN (n : Nd) (x : It) (back : En) (rid job : Int) : n.jobs.map Jb.cs ++ [[.int .i64 (nextI n.jobId), .int .i64 4, .int .i64 0, .int .i64 0, .int .i64 0, .int .i64 (n.clock + 192), .str [], .str [], .str [], .int .u64 0, .int .i64 0, .int .i64 0, .int .i64 0, .str [], .str x.k, .str x.v, .int .i64 x.n, .bool x.g, .int .i64 0, .int .i64 0, .sc (.slice none 0 0), .str back.name, .int .u64 (back.id : Int), .int .i64 back.fr, .int .i64 back.un, .int .i64 back.ix, .str back.tag, .int .i64 rid, .int .i64 job]] = rowsG (n.jobs ++ [copyJ n x back rid job]) n.jobs.length [.int .i64 (nextI n.jobId), .int .i64 4, .int .i64 0, .int .i64 0, .int .i64 0, .int .i64 (n.clock + 192), .str [], .str [], .str [], .int .u64 0, .int .i64 0, .int .i64 0, .int .i64 0, .str [], .str x.k, .str x.v, .int .i64 x.n, .bool x.g, .int .i64 0, .int .i64 0, .sc (.slice none 0 0), .str back.name, .int .u64 (back.id : Int), .int .i64 back.fr, .int .i64 back.un, .int .i64 back.ix, .str back.tag, .int .i64 rid, .int .i64 job] := by
  unfold rowsG
  rw [List.map_append, List.set_append_right _ _ (by simp)]
  simp [copyJ, jbZ, enZ]
theorem rowsG_app (n : Nd) (i : Nat) (hi : i < n.jobs.length) (R : List AVal) (x : It) (back : En) (rid job : Int) : rowsG n.jobs i R ++ [[.int .i64 (nextI n.jobId), .int .i64 4, .int .i64 0, .int .i64 0, .int .i64 0, .int .i64 (n.clock + 192), .str [], .str [], .str [], .int .u64 0, .int .i64 0, .int .i64 0, .int .i64 0, .str [], .str x.k, .str x.v, .int .i64 x.n, .bool x.g, .int .i64 0, .int .i64 0, .slice 1 [], .str back.name, .int .u64 (back.id : Int), .int .i64 back.fr, .int .i64 back.un, .int .i64 back.ix, .str back.tag, .int .i64 rid, .int .i64 job]] = rowsG (n.jobs ++ [copyJ n x back rid job]) i R := by
  unfold rowsG
  rw [List.map_append, List.set_append_left _ _ (by simpa using hi)]
  rfl
@[go_sem] theorem nlBg : M.nl 109 = [] := Eq.trans rfl rfl
theorem eBeginE0 (n : Nd) (key val : List UInt8) (gone : Bool) (back : En) (rid job : Int) (h : n.mid 90000) (hk : key.length ≤ 9223372036854775807) (hc : 0 ≤ n.clock ∧ n.clock ≤ 1099511627776) (he : ¬ beginE n key val gone = 0) (hj : job = 0) :
    fn (C1 (-1)) 109 [] [(aNd n), .str key, .str val, .bool gone, .agg [.str back.name, .int .u64 (back.id : Int), .int .i64 back.fr, .int .i64 back.un, .int .i64 back.ix, .str back.tag], .int .i64 rid, .int .i64 job] = ndRes (n, [doneA back rid zeroIt (beginE n key val gone)]) := by
  obtain ⟨g, hg⟩ : ∃ g : Int, g = -1 := ⟨_, rfl⟩
  rw [← hg]
  have nl := nlB_B g (by omega)
  have il := h.il
  have jl := h.jl
  have pu := e164 n.items key val gone (by omega) hk
  have tw := fun e => tellW0 n _ _ .nil back rid zeroIt false e (h.le (by omega)) (by simp)
  simp only [aNd, zeroIt_k, zeroIt_v, zeroIt_n, zeroIt_g] at tw
  subst hj
  rw [fn_textN (C := C1 g) Tryz.func109 rfl rfl Tryz.results109 (show (C1 g).M.loc 109 = _ from fq109.1) rfl rfl (by kernel_rfl)]
  simp -implicitDefEqProofs -dsimp +contextual (maxSteps := 9999999) (disch := first | omega | simp only [go_sem] <;> omega | refine ib ?_; kernel_rfl) only [go_sem, seval, ↓reduceIte, nl]
  refine il_on0 n (h.le (by omega)) g (by omega) _ ?_ _ _ fun H' W hfr => ?_
  · intro o ho; repeat (first | rfl | rw [Heap.set_ne _ _ (by omega)])
  obtain ⟨W1, W2, W3, W4, W5⟩ := W
  have g4 : (H' 114).gen = 1 := by rw [hfr 114 (by omega)]; rfl
  have m4 : (H' 114).mode = .live := by rw [hfr 114 (by omega)]; rfl
  obtain ⟨r, hr, H4r⟩ : ∃ r : List AVal, r.length = 22 ∧ (H' 114).rows = [r] := by rw [hfr 114 (by omega)]; exact ⟨_, rfl, rfl⟩
  have h11 : H' 111 = ⟨1, .live, 6, [[.str back.name, .int .u64 (back.id : Int), .int .i64 back.fr, .int .i64 back.un, .int .i64 back.ix, .str back.tag]], false⟩ := by rw [hfr 111 (by omega)]; rfl
  have h18 : H' 118 = ⟨0, .dead, 0, [], false⟩ := by rw [hfr 118 (by omega)]; rfl
  by_cases h8 : 8 ≤ n.jobs.length
  · have hb : beginE n key val gone = 41 := by unfold beginE; rw [if_pos h8]
    rw [hb] at he ⊢
    clear hb
    have tw := tw 41
    simp -implicitDefEqProofs -dsimp +contextual (maxSteps := 9999999) (disch := first | omega | simp only [go_sem] <;> omega | refine ib ?_; kernel_rfl) only [go_sem, seval, ↓reduceIte, nl, W1, W2, W3, W4, W5, pu, h11, h18, g4, m4, hr, H4r, h8, tw]
    rw [il_text (C := C1 g) Tryz.func166 rfl Tryz.results166 (show (C1 g).M.loc 166 = _ from fq166.1) (by kernel_rfl)]
    simp -implicitDefEqProofs -dsimp +contextual (maxSteps := 9999999) (disch := first | omega | simp only [go_sem] <;> omega | refine ib ?_; kernel_rfl) only [go_sem, seval, ↓reduceIte, nl, W1, W2, W3, W4, W5, g4, m4, hr, H4r]
    rfl
  · have hb : beginE n key val gone = (putR n.items key val gone).2.2 := by unfold beginE; rw [if_neg h8]
    rw [hb] at he ⊢
    clear hb
    have tw := tw (putR n.items key val gone).2.2
    generalize putR n.items key val gone = p at *
    obtain ⟨p1, p2, p3⟩ := p
    try simp only at he tw pu ⊢
    simp -implicitDefEqProofs -dsimp +contextual (maxSteps := 9999999) (disch := first | omega | simp only [go_sem] <;> omega | refine ib ?_; kernel_rfl) only [go_sem, seval, ↓reduceIte, nl, W1, W2, W3, W4, W5, pu, h11, h18, g4, m4, hr, H4r, h8, tw, he]
    rw [il_text (C := C1 g) Tryz.func166 rfl Tryz.results166 (show (C1 g).M.loc 166 = _ from fq166.1) (by kernel_rfl)]
    simp -implicitDefEqProofs -dsimp +contextual (maxSteps := 9999999) (disch := first | omega | simp only [go_sem] <;> omega | refine ib ?_; kernel_rfl) only [go_sem, seval, ↓reduceIte, nl, W1, W2, W3, W4, W5, g4, m4, hr, H4r]
    rfl
theorem eBeginE1 (n : Nd) (key val : List UInt8) (gone : Bool) (back : En) (rid job : Int) (h : n.mid 90000) (hk : key.length ≤ 9223372036854775807) (hc : 0 ≤ n.clock ∧ n.clock ≤ 1099511627776) (he : ¬ beginE n key val gone = 0) (hj : ¬ job = 0) :
    fn (C1 (-1)) 109 [] [(aNd n), .str key, .str val, .bool gone, .agg [.str back.name, .int .u64 (back.id : Int), .int .i64 back.fr, .int .i64 back.un, .int .i64 back.ix, .str back.tag], .int .i64 rid, .int .i64 job] = ndRes (settleR n job zeroIt false (beginE n key val gone), []) := by
  obtain ⟨g, hg⟩ : ∃ g : Int, g = -1 := ⟨_, rfl⟩
  rw [← hg]
  have nl := nlB_B g (by omega)
  have il := h.il
  have jl := h.jl
  have pu := e164 n.items key val gone (by omega) hk
  have tw := fun e => tellW1 n _ _ .nil back rid job zeroIt false e hj (h.le (by omega))
  simp only [aNd, zeroIt_k, zeroIt_v, zeroIt_n, zeroIt_g] at tw
  rw [fn_textN (C := C1 g) Tryz.func109 rfl rfl Tryz.results109 (show (C1 g).M.loc 109 = _ from fq109.1) rfl rfl (by kernel_rfl)]
  simp -implicitDefEqProofs -dsimp +contextual (maxSteps := 9999999) (disch := first | omega | simp only [go_sem] <;> omega | refine ib ?_; kernel_rfl) only [go_sem, seval, ↓reduceIte, nl]
  refine il_on0 n (h.le (by omega)) g (by omega) _ ?_ _ _ fun H' W hfr => ?_
  · intro o ho; repeat (first | rfl | rw [Heap.set_ne _ _ (by omega)])
  obtain ⟨W1, W2, W3, W4, W5⟩ := W
  have g4 : (H' 114).gen = 1 := by rw [hfr 114 (by omega)]; rfl
  have m4 : (H' 114).mode = .live := by rw [hfr 114 (by omega)]; rfl
  obtain ⟨r, hr, H4r⟩ : ∃ r : List AVal, r.length = 22 ∧ (H' 114).rows = [r] := by rw [hfr 114 (by omega)]; exact ⟨_, rfl, rfl⟩
  have h11 : H' 111 = ⟨1, .live, 6, [[.str back.name, .int .u64 (back.id : Int), .int .i64 back.fr, .int .i64 back.un, .int .i64 back.ix, .str back.tag]], false⟩ := by rw [hfr 111 (by omega)]; rfl
  have h18 : H' 118 = ⟨0, .dead, 0, [], false⟩ := by rw [hfr 118 (by omega)]; rfl
  by_cases h8 : 8 ≤ n.jobs.length
  · have hb : beginE n key val gone = 41 := by unfold beginE; rw [if_pos h8]
    rw [hb] at he ⊢
    clear hb
    have tw := tw 41
    obtain ⟨js, rs, hs⟩ := settle_eta n job zeroIt false 41
    rw [hs] at tw ⊢
    try simp only at tw
    simp -implicitDefEqProofs -dsimp +contextual (maxSteps := 9999999) (disch := first | omega | simp only [go_sem] <;> omega | refine ib ?_; kernel_rfl) only [go_sem, seval, ↓reduceIte, nl, W1, W2, W3, W4, W5, pu, h11, h18, g4, m4, hr, H4r, h8, tw]
    rw [il_text (C := C1 g) Tryz.func166 rfl Tryz.results166 (show (C1 g).M.loc 166 = _ from fq166.1) (by kernel_rfl)]
    simp -implicitDefEqProofs -dsimp +contextual (maxSteps := 9999999) (disch := first | omega | simp only [go_sem] <;> omega | refine ib ?_; kernel_rfl) only [go_sem, seval, ↓reduceIte, nl, W1, W2, W3, W4, W5, g4, m4, hr, H4r]
    rfl
  · have hb : beginE n key val gone = (putR n.items key val gone).2.2 := by unfold beginE; rw [if_neg h8]
    rw [hb] at he ⊢
    clear hb
    have tw := tw (putR n.items key val gone).2.2
    generalize putR n.items key val gone = p at *
    obtain ⟨p1, p2, p3⟩ := p
    try simp only at he tw pu ⊢
    obtain ⟨js, rs, hs⟩ := settle_eta n job zeroIt false p3
    rw [hs] at tw ⊢
    try simp only at tw
    simp -implicitDefEqProofs -dsimp +contextual (maxSteps := 9999999) (disch := first | omega | simp only [go_sem] <;> omega | refine ib ?_; kernel_rfl) only [go_sem, seval, ↓reduceIte, nl, W1, W2, W3, W4, W5, pu, h11, h18, g4, m4, hr, H4r, h8, tw, he]
    rw [il_text (C := C1 g) Tryz.func166 rfl Tryz.results166 (show (C1 g).M.loc 166 = _ from fq166.1) (by kernel_rfl)]
    simp -implicitDefEqProofs -dsimp +contextual (maxSteps := 9999999) (disch := first | omega | simp only [go_sem] <;> omega | refine ib ?_; kernel_rfl) only [go_sem, seval, ↓reduceIte, nl, W1, W2, W3, W4, W5, g4, m4, hr, H4r]
    rfl
theorem eBeginN (n : Nd) (key val : List UInt8) (gone : Bool) (back : En) (rid job : Int) (h : n.mid 90000) (hk : key.length ≤ 9223372036854775807) (hc : 0 ≤ n.clock ∧ n.clock ≤ 1099511627776) (he : beginE n key val gone = 0) (hcop : copR (begunR n key val gone back rid job).jobs (nextI n.jobId) = -1) :
    fn (C1 (-1)) 109 [] [(aNd n), .str key, .str val, .bool gone, .agg [.str back.name, .int .u64 (back.id : Int), .int .i64 back.fr, .int .i64 back.un, .int .i64 back.ix, .str back.tag], .int .i64 rid, .int .i64 job] = ndRes (begunR n key val gone back rid job, []) := by
  obtain ⟨g, hg⟩ : ∃ g : Int, g = -1 := ⟨_, rfl⟩
  rw [← hg]
  have nl := nlB_B g (by omega)
  have il := h.il
  have jl := h.jl
  have pu := e164 n.items key val gone (by omega) hk
  have hb : beginE n key val gone = (putR n.items key val gone).2.2 := by
    unfold beginE at he ⊢
    split at he
    · omega
    · rw [if_neg (by assumption)]
  have h8 : ¬ 8 ≤ n.jobs.length := by
    intro h8; unfold beginE at he; rw [if_pos h8] at he; omega
  rw [hb] at he
  clear hb
  have hmid : (begunR n key val gone back rid job).mid 100000 := (mid_begun key val gone back rid job hk h).le (by omega)
  rw [fn_textN (C := C1 g) Tryz.func109 rfl rfl Tryz.results109 (show (C1 g).M.loc 109 = _ from fq109.1) rfl rfl (by kernel_rfl)]
  simp -implicitDefEqProofs -dsimp +contextual (maxSteps := 9999999) (disch := first | omega | simp only [go_sem] <;> omega | refine ib ?_; kernel_rfl) only [go_sem, seval, ↓reduceIte, nl]
  refine il_on0 n (h.le (by omega)) g (by omega) _ ?_ _ _ fun H' W hfr => ?_
  · intro o ho; repeat (first | rfl | rw [Heap.set_ne _ _ (by omega)])
  obtain ⟨W1, W2, W3, W4, W5⟩ := W
  have g4 : (H' 114).gen = 1 := by rw [hfr 114 (by omega)]; rfl
  have m4 : (H' 114).mode = .live := by rw [hfr 114 (by omega)]; rfl
  obtain ⟨r, hr, H4r⟩ : ∃ r : List AVal, r.length = 22 ∧ (H' 114).rows = [r] := by rw [hfr 114 (by omega)]; exact ⟨_, rfl, rfl⟩
  have h11 : H' 111 = ⟨1, .live, 6, [[.str back.name, .int .u64 (back.id : Int), .int .i64 back.fr, .int .i64 back.un, .int .i64 back.ix, .str back.tag]], false⟩ := by rw [hfr 111 (by omega)]; rfl
  have h18 : H' 118 = ⟨0, .dead, 0, [], false⟩ := by rw [hfr 118 (by omega)]; rfl
  have hx := Jb_app n (putR n.items key val gone).2.1 back rid job
  simp -implicitDefEqProofs -dsimp +contextual (maxSteps := 9999999) (disch := first | omega | simp only [go_sem] <;> omega | refine ib ?_; kernel_rfl) only [go_sem, seval, ↓reduceIte, nl, W1, W2, W3, W4, W5, pu, h11, h18, g4, m4, hr, H4r, h8, he, hx]
  refine il_more_none g (begunR n key val gone back rid job) (nextI n.jobId) 2 hcop hmid _ ?_ ?_ ?_ ?_ ?_ _ _ ?_
  · rw [begunR]; simp -implicitDefEqProofs -dsimp +contextual (maxSteps := 9999999) (disch := first | omega | simp only [go_sem] <;> omega | refine ib ?_; kernel_rfl) only [go_sem, seval, ↓reduceIte, List.length_append, List.length_singleton]
  · exact W2
  · exact W3
  · rfl
  · exact W5
  rw [begunR]
  simp -implicitDefEqProofs -dsimp +contextual (maxSteps := 9999999) (disch := first | omega | simp only [go_sem] <;> omega | refine ib ?_; kernel_rfl) only [go_sem, seval, ↓reduceIte]
  rw [il_text (C := C1 g) Tryz.func166 rfl Tryz.results166 (show (C1 g).M.loc 166 = _ from fq166.1) (by kernel_rfl)]
  simp -implicitDefEqProofs -dsimp +contextual (maxSteps := 9999999) (disch := first | omega | simp only [go_sem] <;> omega | refine ib ?_; kernel_rfl) only [go_sem, seval, ↓reduceIte, nl, W1, W2, W3, W4, W5, g4, m4, hr, H4r, List.length_append, List.length_singleton]
  rfl
theorem eBeginB (n : Nd) (key val : List UInt8) (gone : Bool) (back : En) (rid job : Int) (h : n.mid 90000) (hk : key.length ≤ 9223372036854775807) (hc : 0 ≤ n.clock ∧ n.clock ≤ 1099511627776) (he : beginE n key val gone = 0) (i : Nat) (hi : i < n.jobs.length) (hcop : copR (begunR n key val gone back rid job).jobs (nextI n.jobId) = (i : Int)) :
    fn (C1 (i : Int)) 109 [] [(aNd n), .str key, .str val, .bool gone, .agg [.str back.name, .int .u64 (back.id : Int), .int .i64 back.fr, .int .i64 back.un, .int .i64 back.ix, .str back.tag], .int .i64 rid, .int .i64 job] = ndRes (moreFin (begunR n key val gone back rid job) i (askR (nextI n.jobId) (begunR n key val gone back rid job).list n.jobs[i])) := by
  obtain ⟨g, hg⟩ : ∃ g : Int, g = (i : Int) := ⟨_, rfl⟩
  have on := il_on1 n (h.le (by omega)) i hi
  rw [← hg] at on ⊢
  have nl := nlB_B g (by omega)
  have il := h.il
  have jl := h.jl
  have pu := e164 n.items key val gone (by omega) hk
  have hb : beginE n key val gone = (putR n.items key val gone).2.2 := by
    unfold beginE at he ⊢
    split at he
    · omega
    · rw [if_neg (by assumption)]
  have h8 : ¬ 8 ≤ n.jobs.length := by
    intro h8; unfold beginE at he; rw [if_pos h8] at he; omega
  rw [hb] at he
  clear hb
  have hmid : (begunR n key val gone back rid job).mid 100000 := (mid_begun key val gone back rid job hk h).le (by omega)
  rw [fn_textN (C := C1 g) Tryz.func109 rfl rfl Tryz.results109 (show (C1 g).M.loc 109 = _ from fq109.1) rfl rfl (by kernel_rfl)]
  simp -implicitDefEqProofs -dsimp +contextual (maxSteps := 9999999) (disch := first | omega | simp only [go_sem] <;> omega | refine ib ?_; kernel_rfl) only [go_sem, seval, ↓reduceIte, nl]
  refine on _ ?_ _ _ fun H' W W6 hfr => ?_
  · intro o ho; repeat (first | rfl | rw [Heap.set_ne _ _ (by omega)])
  obtain ⟨W1, W2, W3, W4, W5⟩ := W
  have g4 : (H' 114).gen = 1 := by rw [hfr 114 (by omega)]; rfl
  have m4 : (H' 114).mode = .live := by rw [hfr 114 (by omega)]; rfl
  obtain ⟨r, hr, H4r⟩ : ∃ r : List AVal, r.length = 22 ∧ (H' 114).rows = [r] := by rw [hfr 114 (by omega)]; exact ⟨_, rfl, rfl⟩
  have h11 : H' 111 = ⟨1, .live, 6, [[.str back.name, .int .u64 (back.id : Int), .int .i64 back.fr, .int .i64 back.un, .int .i64 back.ix, .str back.tag]], false⟩ := by rw [hfr 111 (by omega)]; rfl
  have h18 : H' 118 = ⟨0, .dead, 0, [], false⟩ := by rw [hfr 118 (by omega)]; rfl
  have hx := rowsG_app n i hi [.int .i64 n.jobs[i].id, .int .i64 n.jobs[i].kind, .int .i64 n.jobs[i].phase, .int .i64 n.jobs[i].hops, .int .i64 n.jobs[i].tries, .int .i64 n.jobs[i].til, .str n.jobs[i].key, .str n.jobs[i].val, .str n.jobs[i].owner.name, .int .u64 (n.jobs[i].owner.id : Int), .int .i64 n.jobs[i].owner.fr, .int .i64 n.jobs[i].owner.un, .int .i64 n.jobs[i].owner.ix, .str n.jobs[i].owner.tag, .str n.jobs[i].item.k, .str n.jobs[i].item.v, .int .i64 n.jobs[i].item.n, .bool n.jobs[i].item.g, .int .i64 n.jobs[i].acks, .int .i64 n.jobs[i].waits, .osl 60155 1 0 n.jobs[i].asked.length, .str n.jobs[i].back.name, .int .u64 (n.jobs[i].back.id : Int), .int .i64 n.jobs[i].back.fr, .int .i64 n.jobs[i].back.un, .int .i64 n.jobs[i].back.ix, .str n.jobs[i].back.tag, .int .i64 n.jobs[i].backRid, .int .i64 n.jobs[i].backJob] (putR n.items key val gone).2.1 back rid job
  simp -implicitDefEqProofs -dsimp +contextual (maxSteps := 9999999) (disch := first | omega | simp only [go_sem] <;> omega | refine ib ?_; kernel_rfl) only [go_sem, seval, ↓reduceIte, nl, W1, W2, W3, W4, W5, pu, h11, h18, g4, m4, hr, H4r, h8, he, hx]
  clear hx
  have him : i < (begunR n key val gone back rid job).jobs.length := by simp [begunR]; omega
  have hmj : (begunR n key val gone back rid job).jobs[i] = n.jobs[i] := List.getElem_append_left hi
  refine il_moreA g (begunR n key val gone back rid job) (nextI n.jobId) i 2 n.jobs[i] (.osl 60155 1 0 n.jobs[i].asked.length) him (by rw [← hmj, List.set_getElem_self]; exact hcop) hmid (Nat.le_trans (h.ja _ (List.getElem_mem hi)) (by omega)) _ ?_ ?_ _ _ _ rfl ?_ ?_
  · refine ⟨?_, W2, W3, rfl, W5⟩
    rw [begunR]; simp -implicitDefEqProofs -dsimp +contextual (maxSteps := 9999999) (disch := first | omega | simp only [go_sem] <;> omega | refine ib ?_; kernel_rfl) only [go_sem, seval, ↓reduceIte, List.length_append, List.length_singleton]
  · exact ⟨1, rfl, W6⟩
  · intro H2 A X M2 A2 X2 hf2 hw
    obtain ⟨Y1, Y2, Y3, Y4, Y5⟩ := M2
    have k4 : (H2 114).gen = 1 := by rw [hf2 114 (by omega)]; exact g4
    have n4 : (H2 114).mode = .live := by rw [hf2 114 (by omega)]; exact m4
    have r4 : (H2 114).rows = [r] := by rw [hf2 114 (by omega)]; exact H4r
    generalize askR (nextI n.jobId) (begunR n key val gone back rid job).list n.jobs[i] = q at *
    obtain ⟨j, acts⟩ := q
    have hmf : moreFin (begunR n key val gone back rid job) i (j, acts) = ({ begunR n key val gone back rid job with jobs := (begunR n key val gone back rid job).jobs.set i j }, acts) := by unfold moreFin; rw [if_pos hw]
    rw [hmf]
    clear hmf hw on
    generalize begunR n key val gone back rid job = m at *
    obtain ⟨ga, rfl, ha⟩ := A2
    try simp only at Y1 Y4 ha X2
    rcases X2 with ⟨rfl, rfl⟩ | ⟨gx, rfl, hX⟩
    · simp -implicitDefEqProofs -dsimp +contextual (maxSteps := 9999999) (disch := first | omega | simp only [go_sem] <;> omega | refine ib ?_; kernel_rfl) only [go_sem, seval, ↓reduceIte]
      rw [il_text (C := C1 g) Tryz.func166 rfl Tryz.results166 (show (C1 g).M.loc 166 = _ from fq166.1) (by kernel_rfl)]
      simp -implicitDefEqProofs -dsimp +contextual (maxSteps := 9999999) (disch := first | omega | simp only [go_sem] <;> omega | refine ib ?_; kernel_rfl) only [go_sem, seval, ↓reduceIte, nl, Y1, Y2, Y3, Y4, Y5, k4, n4, hr, r4, ha, k_rowsG, him]
      rfl
    · simp -implicitDefEqProofs -dsimp +contextual (maxSteps := 9999999) (disch := first | omega | simp only [go_sem] <;> omega | refine ib ?_; kernel_rfl) only [go_sem, seval, ↓reduceIte]
      rw [il_text (C := C1 g) Tryz.func166 rfl Tryz.results166 (show (C1 g).M.loc 166 = _ from fq166.1) (by kernel_rfl)]
      simp -implicitDefEqProofs -dsimp +contextual (maxSteps := 9999999) (disch := first | omega | simp only [go_sem] <;> omega | refine ib ?_; kernel_rfl) only [go_sem, seval, ↓reduceIte, nl, Y1, Y2, Y3, Y4, Y5, k4, n4, hr, r4, ha, hX, k_rowsG, him]
      rfl
  · intro H2 M2 hf2 hw
    have k4 : (H2 114).gen = 1 := by rw [hf2 114 (by omega)]; exact g4
    have n4 : (H2 114).mode = .live := by rw [hf2 114 (by omega)]; exact m4
    have r4 : (H2 114).rows = [r] := by rw [hf2 114 (by omega)]; exact H4r
    clear hw on
    generalize moreFin (begunR n key val gone back rid job) i (askR (nextI n.jobId) (begunR n key val gone back rid job).list n.jobs[i]) = q at *
    obtain ⟨m, acts⟩ := q
    unfold WorkAt at M2
    simp only [aNd, Nat.reduceMul, Nat.reduceAdd] at M2
    obtain ⟨A, a, b, c, d, X, Y1, Y2, Y3, Y4, Y5, hX⟩ := M2
    rcases hX with ⟨rfl, rfl⟩ | ⟨rfl, hX⟩
    · simp -implicitDefEqProofs -dsimp +contextual (maxSteps := 9999999) (disch := first | omega | simp only [go_sem] <;> omega | refine ib ?_; kernel_rfl) only [go_sem, seval, ↓reduceIte]
      rw [il_text (C := C1 g) Tryz.func166 rfl Tryz.results166 (show (C1 g).M.loc 166 = _ from fq166.1) (by kernel_rfl)]
      simp -implicitDefEqProofs -dsimp +contextual (maxSteps := 9999999) (disch := first | omega | simp only [go_sem] <;> omega | refine ib ?_; kernel_rfl) only [go_sem, seval, ↓reduceIte, nl, Y1, Y2, Y3, Y4, Y5, k4, n4, hr, r4]
      rfl
    · simp -implicitDefEqProofs -dsimp +contextual (maxSteps := 9999999) (disch := first | omega | simp only [go_sem] <;> omega | refine ib ?_; kernel_rfl) only [go_sem, seval, ↓reduceIte]
      rw [il_text (C := C1 g) Tryz.func166 rfl Tryz.results166 (show (C1 g).M.loc 166 = _ from fq166.1) (by kernel_rfl)]
      simp -implicitDefEqProofs -dsimp +contextual (maxSteps := 9999999) (disch := first | omega | simp only [go_sem] <;> omega | refine ib ?_; kernel_rfl) only [go_sem, seval, ↓reduceIte, nl, Y1, Y2, Y3, Y4, Y5, k4, n4, hr, r4, hX]
      rfl
theorem eBeginA (n : Nd) (key val : List UInt8) (gone : Bool) (back : En) (rid job : Int) (h : n.mid 90000) (hk : key.length ≤ 9223372036854775807) (hc : 0 ≤ n.clock ∧ n.clock ≤ 1099511627776) (he : beginE n key val gone = 0) (hcop : copR (begunR n key val gone back rid job).jobs (nextI n.jobId) = (n.jobs.length : Int)) :
    fn (C1 (-2)) 109 [] [(aNd n), .str key, .str val, .bool gone, .agg [.str back.name, .int .u64 (back.id : Int), .int .i64 back.fr, .int .i64 back.un, .int .i64 back.ix, .str back.tag], .int .i64 rid, .int .i64 job] = ndRes (moreFin (begunR n key val gone back rid job) n.jobs.length (askR (nextI n.jobId) (begunR n key val gone back rid job).list (copyJ n (putR n.items key val gone).2.1 back rid job))) := by
  obtain ⟨g, hg⟩ : ∃ g : Int, g = -2 := ⟨_, rfl⟩
  have nl := nlB_A
  rw [← hg] at nl ⊢
  have on : True := trivial
  have il := h.il
  have jl := h.jl
  have pu := e164 n.items key val gone (by omega) hk
  have hb : beginE n key val gone = (putR n.items key val gone).2.2 := by
    unfold beginE at he ⊢
    split at he
    · omega
    · rw [if_neg (by assumption)]
  have h8 : ¬ 8 ≤ n.jobs.length := by
    intro h8; unfold beginE at he; rw [if_pos h8] at he; omega
  rw [hb] at he
  clear hb
  have hmid : (begunR n key val gone back rid job).mid 100000 := (mid_begun key val gone back rid job hk h).le (by omega)
  rw [fn_textN (C := C1 g) Tryz.func109 rfl rfl Tryz.results109 (show (C1 g).M.loc 109 = _ from fq109.1) rfl rfl (by kernel_rfl)]
  simp -implicitDefEqProofs -dsimp +contextual (maxSteps := 9999999) (disch := first | omega | simp only [go_sem] <;> omega | refine ib ?_; kernel_rfl) only [go_sem, seval, ↓reduceIte, nl]
  refine il_on0 n (h.le (by omega)) g (by omega) _ ?_ _ _ fun H' W hfr => ?_
  · intro o ho; repeat (first | rfl | rw [Heap.set_ne _ _ (by omega)])
  obtain ⟨W1, W2, W3, W4, W5⟩ := W
  have g4 : (H' 114).gen = 1 := by rw [hfr 114 (by omega)]; rfl
  have m4 : (H' 114).mode = .live := by rw [hfr 114 (by omega)]; rfl
  obtain ⟨r, hr, H4r⟩ : ∃ r : List AVal, r.length = 22 ∧ (H' 114).rows = [r] := by rw [hfr 114 (by omega)]; exact ⟨_, rfl, rfl⟩
  have h11 : H' 111 = ⟨1, .live, 6, [[.str back.name, .int .u64 (back.id : Int), .int .i64 back.fr, .int .i64 back.un, .int .i64 back.ix, .str back.tag]], false⟩ := by rw [hfr 111 (by omega)]; rfl
  have h18 : H' 118 = ⟨0, .dead, 0, [], false⟩ := by rw [hfr 118 (by omega)]; rfl
  have hx := Jb_appN n (putR n.items key val gone).2.1 back rid job
  simp -implicitDefEqProofs -dsimp +contextual (maxSteps := 9999999) (disch := first | omega | simp only [go_sem] <;> omega | refine ib ?_; kernel_rfl) only [go_sem, seval, ↓reduceIte, nl, W1, W2, W3, W4, W5, pu, h11, h18, g4, m4, hr, H4r, h8, he, hx]
  clear hx
  have him : n.jobs.length < (begunR n key val gone back rid job).jobs.length := by simp [begunR]
  have hmj : (begunR n key val gone back rid job).jobs[n.jobs.length] = copyJ n (putR n.items key val gone).2.1 back rid job := by simp [begunR]
  refine il_moreN g (begunR n key val gone back rid job) (nextI n.jobId) n.jobs.length 2 (copyJ n (putR n.items key val gone).2.1 back rid job) him hmj hcop hmid rfl rfl rfl _ ?_ _ _ _ rfl ?_ ?_
  · refine ⟨?_, W2, W3, rfl, W5⟩
    rw [begunR]; simp -implicitDefEqProofs -dsimp +contextual (maxSteps := 9999999) (disch := first | omega | simp only [go_sem] <;> omega | refine ib ?_; kernel_rfl) only [go_sem, seval, ↓reduceIte, List.length_append, List.length_singleton]
  · intro H2 A X M2 A2 X2 hf2 hw
    obtain ⟨Y1, Y2, Y3, Y4, Y5⟩ := M2
    have k4 : (H2 114).gen = 1 := by rw [hf2 114 (by omega)]; exact g4
    have n4 : (H2 114).mode = .live := by rw [hf2 114 (by omega)]; exact m4
    have r4 : (H2 114).rows = [r] := by rw [hf2 114 (by omega)]; exact H4r
    generalize askR (nextI n.jobId) (begunR n key val gone back rid job).list (copyJ n (putR n.items key val gone).2.1 back rid job) = q at *
    obtain ⟨j, acts⟩ := q
    have hmf : moreFin (begunR n key val gone back rid job) n.jobs.length (j, acts) = ({ begunR n key val gone back rid job with jobs := (begunR n key val gone back rid job).jobs.set n.jobs.length j }, acts) := by unfold moreFin; rw [if_pos hw]
    rw [hmf]
    clear hmf hw on
    generalize begunR n key val gone back rid job = m at *
    obtain ⟨ga, rfl, ha⟩ := A2
    try simp only at Y1 Y4 ha X2
    rcases X2 with ⟨rfl, rfl⟩ | ⟨gx, rfl, hX⟩
    · simp -implicitDefEqProofs -dsimp +contextual (maxSteps := 9999999) (disch := first | omega | simp only [go_sem] <;> omega | refine ib ?_; kernel_rfl) only [go_sem, seval, ↓reduceIte]
      rw [il_text (C := C1 g) Tryz.func166 rfl Tryz.results166 (show (C1 g).M.loc 166 = _ from fq166.1) (by kernel_rfl)]
      simp -implicitDefEqProofs -dsimp +contextual (maxSteps := 9999999) (disch := first | omega | simp only [go_sem] <;> omega | refine ib ?_; kernel_rfl) only [go_sem, seval, ↓reduceIte, nl, Y1, Y2, Y3, Y4, Y5, k4, n4, hr, r4, ha, k_rowsG, him]
      rfl
    · simp -implicitDefEqProofs -dsimp +contextual (maxSteps := 9999999) (disch := first | omega | simp only [go_sem] <;> omega | refine ib ?_; kernel_rfl) only [go_sem, seval, ↓reduceIte]
      rw [il_text (C := C1 g) Tryz.func166 rfl Tryz.results166 (show (C1 g).M.loc 166 = _ from fq166.1) (by kernel_rfl)]
      simp -implicitDefEqProofs -dsimp +contextual (maxSteps := 9999999) (disch := first | omega | simp only [go_sem] <;> omega | refine ib ?_; kernel_rfl) only [go_sem, seval, ↓reduceIte, nl, Y1, Y2, Y3, Y4, Y5, k4, n4, hr, r4, ha, hX, k_rowsG, him]
      rfl
  · intro H2 M2 hf2 hw
    have k4 : (H2 114).gen = 1 := by rw [hf2 114 (by omega)]; exact g4
    have n4 : (H2 114).mode = .live := by rw [hf2 114 (by omega)]; exact m4
    have r4 : (H2 114).rows = [r] := by rw [hf2 114 (by omega)]; exact H4r
    clear hw on
    generalize moreFin (begunR n key val gone back rid job) n.jobs.length (askR (nextI n.jobId) (begunR n key val gone back rid job).list (copyJ n (putR n.items key val gone).2.1 back rid job)) = q at *
    obtain ⟨m, acts⟩ := q
    unfold WorkAt at M2
    simp only [aNd, Nat.reduceMul, Nat.reduceAdd] at M2
    obtain ⟨A, a, b, c, d, X, Y1, Y2, Y3, Y4, Y5, hX⟩ := M2
    rcases hX with ⟨rfl, rfl⟩ | ⟨rfl, hX⟩
    · simp -implicitDefEqProofs -dsimp +contextual (maxSteps := 9999999) (disch := first | omega | simp only [go_sem] <;> omega | refine ib ?_; kernel_rfl) only [go_sem, seval, ↓reduceIte]
      rw [il_text (C := C1 g) Tryz.func166 rfl Tryz.results166 (show (C1 g).M.loc 166 = _ from fq166.1) (by kernel_rfl)]
      simp -implicitDefEqProofs -dsimp +contextual (maxSteps := 9999999) (disch := first | omega | simp only [go_sem] <;> omega | refine ib ?_; kernel_rfl) only [go_sem, seval, ↓reduceIte, nl, Y1, Y2, Y3, Y4, Y5, k4, n4, hr, r4]
      rfl
    · simp -implicitDefEqProofs -dsimp +contextual (maxSteps := 9999999) (disch := first | omega | simp only [go_sem] <;> omega | refine ib ?_; kernel_rfl) only [go_sem, seval, ↓reduceIte]
      rw [il_text (C := C1 g) Tryz.func166 rfl Tryz.results166 (show (C1 g).M.loc 166 = _ from fq166.1) (by kernel_rfl)]
      simp -implicitDefEqProofs -dsimp +contextual (maxSteps := 9999999) (disch := first | omega | simp only [go_sem] <;> omega | refine ib ?_; kernel_rfl) only [go_sem, seval, ↓reduceIte, nl, Y1, Y2, Y3, Y4, Y5, k4, n4, hr, r4, hX]
      rfl
def jId (j : Jb) : Jb := { jbZ with id := j.id, kind := j.kind }
def jRow (r : List AVal) : Jb := match r with | .int _ a :: .int _ b :: _ => { jbZ with id := a, kind := b } | _ => jbZ
def itRow (r : List AVal) : It := match r with | [.str k, .str v, .int _ n, .bool g] => ⟨k, v, n, g⟩ | _ => zeroIt
def rowsA (v : AVal) (i : Nat) : List (List AVal) := match v with | .agg cs => (match cs[i]? with | some (.slice _ rows) => rows | _ => []) | _ => []
def intA (v : AVal) (i : Nat) : Int := match v with | .agg cs => (match cs[i]? with | some (.int _ n) => n | _ => 0) | _ => 0
def ndZ : Nd := ⟨enZ, 0, [], 0, [], false, [], [], [], [], [], [], [], 0, 0, [], []⟩
def ndA (v : AVal) : Nd := { ndZ with items := (rowsA v 16).map itRow, jobs := (rowsA v 17).map jRow, jobId := intA v 19 }
def gmM (ds : List AVal) : Int := match ds with | v :: .int _ id :: _ => copR (ndA v).jobs id | _ => -1
def gmB (ds : List AVal) : Int := match ds with
  | v :: .str k :: .str x :: .bool g :: _ => if beginE (ndA v) k x g = 0 then
      (if copR (begunR (ndA v) k x g enZ 0 0).jobs (nextI (ndA v).jobId) = ((ndA v).jobs.length : Int) then -2 else copR (begunR (ndA v) k x g enZ 0 0).jobs (nextI (ndA v).jobId)) else -1
  | _ => -1
theorem placeG_map {α β : Type} (f : α → β) (q : β → Bool) (l : List α) : placeG q (l.map f) = placeG (fun a => q (f a)) l := by
  unfold placeG
  rw [List.findIdx_map, List.length_map]
  rfl
theorem copR_map (f : Jb → Jb) (h1 : ∀ j, (f j).id = j.id) (h2 : ∀ j, (f j).kind = j.kind) (l : List Jb) (id : Int) : copR (l.map f) id = copR l id := by
  have e : findR (l.map f) id = findR l id := by
    unfold findR
    rw [placeG_map]
    congr 1
    funext j
    simp [jobAt, h1]
  unfold copR
  rw [e]
  rcases findR_cases l id with ⟨i, hi, _, _, hf⟩ | ⟨_, hf⟩
  · have e2 : (jobG (l.map f) (findR l id).toNat).kind = (jobG l (findR l id).toNat).kind := by
      rw [hf, Int.toNat_natCast, jobG_at hi, jobG_at (by simpa using hi), List.getElem_map, h2]
    rw [e2]
  · rw [hf]; simp
theorem jRow_map (l : List Jb) : (l.map Jb.cs).map jRow = l.map jId := by
  rw [List.map_map]; rfl
theorem itRow_map (l : List It) : (l.map It.cs).map itRow = l := by
  rw [List.map_map]
  exact List.map_id l
theorem gmB_eq (n : Nd) (k x : List UInt8) (g : Bool) (back : En) (rid job : Int) (rest : List AVal) : gmB (((aNd n)) :: .str k :: .str x :: .bool g :: rest) =
    if beginE n k x g = 0 then (if copR (begunR n k x g back rid job).jobs (nextI n.jobId) = (n.jobs.length : Int) then -2 else copR (begunR n k x g back rid job).jobs (nextI n.jobId)) else -1 := by
  have e0 : ndA ((aNd n)) = { ndZ with items := n.items, jobs := n.jobs.map jId, jobId := n.jobId } := by
    show ({ ndZ with items := (n.items.map It.cs).map itRow, jobs := (n.jobs.map Jb.cs).map jRow, jobId := n.jobId } : Nd) = _
    rw [itRow_map, jRow_map]
  show (if beginE (ndA ((aNd n))) k x g = 0 then _ else _) = _
  rw [e0]
  have e1 : beginE { ndZ with items := n.items, jobs := n.jobs.map jId, jobId := n.jobId } k x g = beginE n k x g := by
    unfold beginE; simp
  rw [e1]
  have e2 : copR (begunR { ndZ with items := n.items, jobs := n.jobs.map jId, jobId := n.jobId } k x g enZ 0 0).jobs (nextI n.jobId) = copR (begunR n k x g back rid job).jobs (nextI n.jobId) := by
    rw [← copR_map jId (fun _ => rfl) (fun _ => rfl), ← copR_map jId (fun _ => rfl) (fun _ => rfl) (begunR n k x g back rid job).jobs]
    congr 1
    simp [begunR, copyJ, jId, jbZ]
  simp only [e2, List.length_map]
noncomputable def own2 : Own := fun f => if f = 109 then some (fun ex ds => fn (C1 (gmB ds)) f ex ds) else if f = 999999 then some (fun ex ds => fn (C1 (gmM ds)) f ex ds) else if f = 203 then some (fun ex ds => fn (C1 (gmM ds)) f ex ds)
  else if f ∈ [999999, 999999, 999999, 999999, 999999, 243, 135] then none else some (fun ex ds => fn C f ex ds)
theorem own2_ok : OwnOk E own2 := by
  intro f g ex ds q hf hg
  unfold own2 at hf
  split at hf
  · simp only [aNd, Option.some.injEq] at hf
    subst hf
    exact fnE_sound mixed own1_ok hg
  · split at hf
    · simp only [aNd, Option.some.injEq] at hf
      subst hf
      exact fnE_sound mixed own1_ok hg
    · split at hf
      · simp only [aNd, Option.some.injEq] at hf
        subst hf
        exact fnE_sound mixed own1_ok hg
      · split at hf
        · cases hf
        · simp only [aNd, Option.some.injEq] at hf
          subst hf
          exact fnE_sound mixed own_ok hg
noncomputable def C2 : Cf := ⟨E, M, own2⟩
@[go_sem] theorem C2_E : C2.E = E := rfl
@[go_sem] theorem C2_M : C2.M = M := rfl
theorem c2_fn (f : FuncId) (h1 : f ≠ 109) (h2 : f ≠ 999999) (h3 : f ≠ 203) (h4 : f ∉ [999999, 999999, 999999, 999999, 999999, 243, 135]) (ex ds) : fn C2 f ex ds = fn C f ex ds :=
  fn_own (g := fun ex ds => fn C f ex ds) (by show own2 f = _; unfold own2; rw [if_neg h1, if_neg h2, if_neg h3, if_neg h4]) ex ds
theorem eBegin (n : Nd) (key val : List UInt8) (gone : Bool) (back : En) (rid job : Int) (h : n.mid 90000) (hk : key.length ≤ 9223372036854775807) (hc : 0 ≤ n.clock ∧ n.clock ≤ 1099511627776) :
    fn C2 109 [] [(aNd n), .str key, .str val, .bool gone, .agg [.str back.name, .int .u64 (back.id : Int), .int .i64 back.fr, .int .i64 back.un, .int .i64 back.ix, .str back.tag], .int .i64 rid, .int .i64 job] = ndRes (beginR n key val gone back rid job) := by
  rw [fn_own (g := fun ex ds => fn (C1 (gmB ds)) 109 ex ds) (by show own2 109 = _; unfold own2; rw [if_pos rfl])]
  rw [gmB_eq n key val gone back rid job]
  unfold beginR
  by_cases he : beginE n key val gone = 0
  · rw [if_pos he, if_pos he]
    have hlen : (begunR n key val gone back rid job).jobs.length = n.jobs.length + 1 := by simp [begunR]
    rcases copR_cases (begunR n key val gone back rid job).jobs (nextI n.jobId) with ⟨i, hi, hc1⟩ | hc1
    · rw [moreR_at hi hc1, hc1]
      by_cases hl : i = n.jobs.length
      · subst hl
        rw [if_pos rfl, eBeginA n key val gone back rid job h hk hc he hc1]
        have e : (begunR n key val gone back rid job).jobs[n.jobs.length] = copyJ n (putR n.items key val gone).2.1 back rid job := by simp [begunR]
        rw [e]
      · have hi' : i < n.jobs.length := by omega
        rw [if_neg (by omega), eBeginB n key val gone back rid job h hk hc he i hi' hc1]
        have e : (begunR n key val gone back rid job).jobs[i] = n.jobs[i] := List.getElem_append_left hi'
        rw [e]
    · rw [moreR_none hc1, hc1, if_neg (by omega)]
      exact eBeginN n key val gone back rid job h hk hc he hc1
  · rw [if_neg he, if_neg he]
    unfold tellR
    split
    · rename_i hj; subst hj; exact eBeginE0 n key val gone back rid 0 h hk hc he rfl
    · rename_i hj; exact eBeginE1 n key val gone back rid job h hk hc he hj
def okC2 (f : FuncId) : Bool := decide (f ≠ 109) && decide (f ≠ 999999) && decide (f ≠ 203) && decide (f ∉ [999999, 999999, 999999, 999999, 999999, 243, 135])
theorem C2_C (f : FuncId) (h : okC2 f = true) (ex ds) : fn C2 f ex ds = fn C f ex ds := by
  simp only [okC2, Bool.and_eq_true, decide_eq_true_eq] at h
  exact c2_fn f h.1.1.1 h.1.1.2 h.1.2 h.2 ex ds
@[go_sem] theorem e101 (a b : Nat) (ha : a ≤ 18446744073709551615) (hb : b ≤ 18446744073709551615) : fn C 101 [] [.int .u64 (a : Int), .int .u64 (b : Int)] = some (.int .u64 (distR a b : Int), []) := by
  rw [fn_text Tryz.func101 rfl rfl Tryz.results101 fq101.1 rfl rfl (by kernel_rfl)]
  by_cases h : a ≤ b
  · have e : IntKind.u64.wrap ((b : Int) - a) = ((distR a b : Nat) : Int) := by rw [IntKind.wrap_u64, distR]; omega
    simp -implicitDefEqProofs -dsimp +contextual (maxSteps := 9999999) (disch := first | omega | simp only [go_sem] <;> omega | refine ib ?_; kernel_rfl) only [go_sem, seval, ↓reduceIte, h, e]
    rw [show b - a = distR a b by unfold distR; omega]
  · have e1 : IntKind.u64.wrap (18446744073709551615 - (a : Int)) = ((18446744073709551615 - a : Nat) : Int) := by rw [IntKind.wrap_u64]; omega
    have e2 : IntKind.u64.wrap (((18446744073709551615 - a + b : Nat) : Int)) = ((18446744073709551615 - a + b : Nat) : Int) := by rw [IntKind.wrap_u64]; omega
    have e3 : IntKind.u64.wrap (((18446744073709551615 - a + b + 1 : Nat) : Int)) = ((distR a b : Nat) : Int) := by rw [IntKind.wrap_u64, distR]; omega
    simp -implicitDefEqProofs -dsimp +contextual (maxSteps := 9999999) (disch := first | omega | simp only [go_sem] <;> omega | refine ib ?_; kernel_rfl) only [go_sem, seval, ↓reduceIte, h, e1, e2, e3]
end Go.Proofs.YtnpkhdjgedeppaaGreatDoor
namespace Go.Proofs.YtnpkhdjgedeppaaGreatDoor
set_option maxHeartbeats 64000000
open Go.Am
set_option linter.unusedSimpArgs false
set_option linter.unusedVariables false
set_option maxRecDepth 100000
attribute [local irreducible] distR
def bestS (key : Nat) (b : En) (p : Pr) : En := if distR key p.e.id < distR key b.id then p.e else b
def ownerR (me : En) (l : List Pr) (key : Nat) : En := l.foldl (bestS key) me
theorem ownerR_eq (me : En) (l : List Pr) (key : Nat) : ownerR me l key = l.foldl (bestS key) me := rfl
theorem foldl_take_succ {α β : Type} (f : β → α → β) (b : β) (l : List α) (i : Nat) (h : i < l.length) : (l.take (i + 1)).foldl f b = f ((l.take i).foldl f b) l[i] := by
  rw [List.take_succ_eq_append_getElem h, List.foldl_append]; rfl
theorem best_succ (me : En) (l : List Pr) (key i : Nat) (h : i < l.length) : (l.take (i + 1)).foldl (bestS key) me = bestS key ((l.take i).foldl (bestS key) me) l[i] := foldl_take_succ (bestS key) me l i h
theorem best_id (key : Nat) (l : List Pr) (hp : ∀ p ∈ l, p.e.id ≤ 18446744073709551615) (me : En) (hm : me.id ≤ 18446744073709551615) : (l.foldl (bestS key) me).id ≤ 18446744073709551615 := by
  induction l generalizing me with
  | nil => exact hm
  | cons p l ih =>
    refine ih (fun q hq => hp q (List.mem_cons_of_mem _ hq)) _ ?_
    unfold bestS
    split
    · exact hp p (List.mem_cons_self ..)
    · exact hm
@[go_sem] theorem e128 (me : En) (l : List Pr) (key : Nat) (hk : key ≤ 18446744073709551615) (hm : me.id ≤ 18446744073709551615) (hl : l.length ≤ 9223372036854775807) (hp : ∀ p ∈ l, p.e.id ≤ 18446744073709551615) : fn C 128 [] [.agg [.str me.name, .int .u64 (me.id : Int), .int .i64 me.fr, .int .i64 me.un, .int .i64 me.ix, .str me.tag], .slice 8 (l.map Pr.cs), .int .u64 (key : Int)] = some (.agg [.str (ownerR me l key).name, .int .u64 ((ownerR me l key).id : Int), .int .i64 (ownerR me l key).fr, .int .i64 (ownerR me l key).un, .int .i64 (ownerR me l key).ix, .str (ownerR me l key).tag], []) := by
  rw [fn_text Tryz.func128 rfl rfl Tryz.results128 fq128.1 rfl rfl (by kernel_rfl)]
  rw [ownerR_eq]
  simp -implicitDefEqProofs -dsimp +contextual (maxSteps := 9999999) (disch := first | omega | simp only [go_sem] <;> omega | refine ib ?_; kernel_rfl) only [go_sem, seval, ↓reduceIte]
  refine kFor l.length (fun i f H => f 2 = .int .u64 (key : Int) ∧ f 6 = .ptr 106 1 0 0 ∧ f 7 = .ptr 107 1 0 0 ∧ f 11 = .slice 8 (l.map Pr.cs) ∧ f 12 = .int .i64 l.length ∧ f 13 = .int .i64 (i : Nat) ∧ H 107 = ⟨1, .live, 6, [((l.take i).foldl (bestS key) me).cs], false⟩ ∧ (H 106).gen = 1 ∧ (H 106).mode = .live ∧ (∃ r : List AVal, r.length = 6 ∧ (H 106).rows = [r])) ?_ ?_ (by exact ⟨rfl, rfl, rfl, rfl, rfl, rfl, rfl, rfl, rfl, ⟨_, rfl, rfl⟩⟩)
  · rintro i f H hi ⟨f2, f6, f7, f11, f12, f13, H7, H6g, H6m, H6⟩ ih
    have row := pr_row l i hi
    have hb := best_succ me l key i hi
    have h1 := hp _ (List.getElem_mem hi)
    have h2 := best_id key (l.take i) (fun q hq => hp q (List.mem_of_mem_take hq)) me hm
    generalize (l.take i).foldl (bestS key) me = b at *
    simp -implicitDefEqProofs -dsimp +contextual (maxSteps := 9999999) (disch := first | omega | simp only [go_sem] <;> omega | refine ib ?_; kernel_rfl) only [go_sem, seval, ↓reduceIte, f2, f6, f7, f11, f12, f13, H7, hi, row, h1, h2]
    (repeat' (refine kD_intro (fun _ => ?_) (fun _ => ?_)))
    · rename_i hd
      refine ih _ _ ⟨f2, f6, f7, f11, f12, rfl, ?_, by simpa [Heap.set] using H6g, by simpa [Heap.set] using H6m, by simpa [Heap.set] using H6⟩
      rw [hb, bestS, if_pos hd]; rfl
    · rename_i hd
      refine ih _ _ ⟨f2, f6, f7, f11, f12, rfl, ?_, by simpa [Heap.set] using H6g, by simpa [Heap.set] using H6m, by simpa [Heap.set] using H6⟩
      rw [hb, bestS, if_neg hd]; simp [Heap.set, H7]
  · rintro f H ⟨f2, f6, f7, f11, f12, f13, H7, H6g, H6m, r, hr, H6⟩
    rw [List.take_length] at H7
    simp -implicitDefEqProofs -dsimp +contextual (maxSteps := 9999999) (disch := first | omega | simp only [go_sem] <;> omega | refine ib ?_; kernel_rfl) only [go_sem, seval, ↓reduceIte, f2, f6, f7, f11, f12, f13, H7, H6g, H6m, H6, hr]
end Go.Proofs.YtnpkhdjgedeppaaGreatDoor
namespace Go.Proofs.YtnpkhdjgedeppaaGreatDoor
set_option maxHeartbeats 64000000
open Go.Am
set_option linter.unusedSimpArgs false
set_option linter.unusedVariables false
set_option maxRecDepth 100000
def keyI (k : List UInt8) : Nat := idB (keyS ++ k)
def mineJ (j : Jb) : Bool := decide (j.kind = 1) || decide (j.kind = 2) || decide (j.kind = 3)
def cliP (l : List Jb) (id : Int) : Int := if 0 ≤ findR l id ∧ mineJ (jobG l (findR l id).toNat) = true then findR l id else -1
def findM (k : List UInt8) : Ms := { msZ with kind := 6, id := keyI k }
def askC (n : Nd) (i : Nat) (j : Jb) (to : En) (id : Int) : Nd × List Ac := ({ n with jobs := n.jobs.set i { j with phase := 1, owner := to } }, [⟨false, to, findM j.key, 5, id⟩])
def seekC (n : Nd) (i : Nat) (id : Int) : Nd × List Ac :=
  if ownerR n.me n.list (keyI (jobG n.jobs i).key) = n.me then
    if (jobG n.jobs i).kind = 3 then (settleR n id (getR n.items (jobG n.jobs i).key).1 ((getR n.items (jobG n.jobs i).key).2 && !(getR n.items (jobG n.jobs i).key).1.g) 0, [])
    else beginR { n with jobs := n.jobs.set i { jobG n.jobs i with phase := 2 } } (jobG n.jobs i).key (jobG n.jobs i).val (decide ((jobG n.jobs i).kind = 2)) enZ 0 id
  else askC n i (jobG n.jobs i) (ownerR n.me n.list (keyI (jobG n.jobs i).key)) id
def seekR (n : Nd) (id : Int) : Nd × List Ac := if 0 ≤ cliP n.jobs id then seekC n (cliP n.jobs id).toNat id else (n, [])
def newC (n : Nd) (kind : Int) (key val : List UInt8) : Jb := { jbZ with id := nextI n.jobId, kind := kind, key := key, val := if kind = 1 then val else [], til := n.clock + 480 }
def addC (n : Nd) (kind : Int) (key val : List UInt8) : Nd := { n with jobId := nextI n.jobId, jobs := n.jobs ++ [newC n kind key val] }
def begE (n : Nd) (kind : Int) (key val : List UInt8) : Int :=
  if kind < 1 ∨ 3 < kind ∨ keyR key = false ∨ 32 < val.length then 2 else if n.ready = false ∨ 8 ≤ n.jobs.length ∨ n.jobs.any mineJ = true then 41 else 0
def begC (n : Nd) (kind : Int) (key val : List UInt8) : Nd × List Ac := if begE n kind key val = 0 then seekR (addC n kind key val) (nextI n.jobId) else (n, [])
def lateK (clock : Int) (j : Jb) : Bool := mineJ j && decide (j.til < clock)
def lateC (n : Nd) : Nd := { n with jobs := n.jobs.filter fun j => !lateK n.clock j, results := (n.jobs.filter (lateK n.clock)).foldl (fun rs j => lastR (rs ++ [resR j.id j zeroIt false 43])) n.results }
end Go.Proofs.YtnpkhdjgedeppaaGreatDoor
