import Derived.Test.YtclgfgnhcakhdaaGreatDoorAm6
import Derived.Still
namespace Go.Am
set_option linter.unusedSectionVars false
def _root_.Go.Program.goFn (P : Program) (f : FuncId) : Bool :=
  match P.funcs[f]? with
  | some fn => fn.body.isSome && !(fn.name == "runtime.NumGoroutine")
  | none => false
def ActC (E : Env) (cl : Go.Call) (dst : Option Tmp) (ρ : Operand → AVal) (H : Heap) (v : AVal) (rd : List Nat) (up : List (Nat × Obj)) : Prop :=
  ∃ f vals ds r ls u b bz,
    (match cl.callee with
     | .value g => (match ρ g with
       | .fn (.func f') first cap => f' = f ∧ vals = first ++ cl.args.toList.map ρ ++ cap
       | _ => False)
     | _ => False) ∧
    E.P.goFn f = true ∧ Pks H vals ds u b ∧ u.Nodup ∧ (∀ o ∈ u, o ∉ b) ∧ (∃ ex, SpecX E ex f ds r ls ∧ ExV H u vals ex) ∧ (bz = b ∨ (bz = [] ∧ r.flat = true ∧ flats ls = true)) ∧ (lents vals ds).length = ls.length ∧
    (∀ (k : Nat) (o : Nat) (l : AVal), (lents vals ds)[k]? = some o → ls[k]? = some l → ∃ cs, l = .uptr cs ∧ cs.length = (H o).st) ∧
    ((opnU (callH H u (lents vals ds) bz) (site dst) r ++ lentUp (callH H u (lents vals ds) bz) (lents vals ds) ls).map (·.1)).Nodup ∧
    v = opnV (callH H u (lents vals ds) bz) (site dst) r ∧
    up = callUp H u (lents vals ds) bz ++ (opnU (callH H u (lents vals ds) bz) (site dst) r ++ lentUp (callH H u (lents vals ds) bz) (lents vals ds) ls) ∧
    rd = u ++ b ++ up.map (·.1)
def Acts (E : Env) (op : Op) (dst : Option Tmp) (ρ : Operand → AVal) (H : Heap) (v : AVal) (rd : List Nat) (up : List (Nat × Obj)) : Prop :=
  ActN E op dst ρ H v rd up ∨ ∃ cl, op = .call cl ∧ ActC E cl dst ρ H v rd up
section
variable {E : Env} {dst : Option Tmp} {ρ ρ' : Operand → AVal} {H : Heap} {v : AVal} {rd : List Nat} {up : List (Nat × Obj)}
theorem map_congr {l : List Operand} (h : ∀ x ∈ l, ρ x = ρ' x) : l.map ρ = l.map ρ' := List.map_congr_left h
theorem optmap_congr {l : Option Operand} (h : ∀ x ∈ l.toArray, ρ x = ρ' x) : l.map ρ = l.map ρ' := by
  cases l with
  | none => rfl
  | some x => simp [h x (by simp)]
theorem act_congr {op : Op} (h : ∀ x ∈ op.operands, ρ x = ρ' x) (hA : Acts E op dst ρ H v rd up) : Acts E op dst ρ' H v rd up := by
  rcases hA with hA | ⟨cl, rfl, hA⟩
  · refine .inl ?_
    cases op <;> simp only [Op.operands] at h <;> try (exact hA.elim)
    case move x => simp only [ActN, Act1] at hA ⊢; rw [← h x (by simp)]; exact hA
    case assign x => simp only [ActN, Act1] at hA ⊢; rw [← h x (by simp)]; exact hA
    case pick x y z => simp only [ActN, Act1] at hA ⊢; rw [← h x (by simp), ← h y (by simp), ← h z (by simp)]; exact hA
    case alloc t => exact hA
    case box t x => simp only [ActN, Act1] at hA ⊢; rw [← h x (by simp)]; exact hA
    case build t ps =>
      simp only [ActN, Act2] at hA ⊢
      have : ps.toList.map (fun p => (p.1, ρ' p.2)) = ps.toList.map (fun p => (p.1, ρ p.2)) := List.map_congr_left fun p hp => by
        rw [h p.2 (by simpa using ⟨p.1, by simpa using hp⟩)]
      rw [this]; exact hA
    case buildSlice t n ps =>
      simp only [ActN, Act2, ActBF] at hA ⊢
      have : ps.toList.map (fun p => (p.1, ρ' p.2)) = ps.toList.map (fun p => (p.1, ρ p.2)) := List.map_congr_left fun p hp => by
        rw [h p.2 (by simpa using ⟨p.1, by simpa using hp⟩)]
      rw [this]; exact hA
    case load t x => simp only [ActN, Act1] at hA ⊢; rw [← h x (by simp)]; exact hA
    case store t x y => simp only [ActN, Act1] at hA ⊢; rw [← h x (by simp), ← h y (by simp)]; exact hA
    case nilCheck x => simp only [ActN, Act1] at hA ⊢; rw [← h x (by simp)]; exact hA
    case sliceToArrayPointer t x => simp only [ActN, Act1] at hA ⊢; rw [← h x (by simp)]; exact hA
    case binOp op t x y u => simp only [ActN, Act1] at hA ⊢; rw [← h x (by simp), ← h y (by simp)]; exact hA
    case unOp op t x => simp only [ActN, Act1] at hA ⊢; rw [← h x (by simp)]; exact hA
    case convert s d x => simp only [ActN, Act1, Act2] at hA ⊢; rw [← h x (by simp)]; exact hA
    case makeFunc f fs cs =>
      simp only [ActN, Act1] at hA ⊢
      rw [← map_congr (ρ := ρ) (ρ' := ρ') (l := fs.toList) (fun x hx => h x (by simp at hx; simp [hx])), ← map_congr (ρ := ρ) (ρ' := ρ') (l := cs.toList) (fun x hx => h x (by simp at hx; simp [hx]))]
      exact hA
    case makeSlice t l k => simp only [ActN, Act2] at hA ⊢; rw [← h l (by simp), ← h k (by simp)]; exact hA
    case slice t x lo hi mx =>
      simp only [ActN, Act1, ActS] at hA ⊢
      rcases hA with hA | hA | ⟨y1, y2, rfl, rfl, hA⟩
      · refine .inl ?_
        rw [← h x (by simp), ← optmap_congr (ρ := ρ) (ρ' := ρ') (l := lo) (fun y hy => h y (by simp at hy; simp [hy])), ← optmap_congr (ρ := ρ) (ρ' := ρ') (l := hi) (fun y hy => h y (by simp at hy; simp [hy]))]
        exact hA
      · refine .inr (.inl ?_)
        rw [← h x (by simp), ← optmap_congr (ρ := ρ) (ρ' := ρ') (l := lo) (fun y hy => h y (by simp at hy; simp [hy])), ← optmap_congr (ρ := ρ) (ρ' := ρ') (l := hi) (fun y hy => h y (by simp at hy; simp [hy]))]
        exact hA
      · refine .inr (.inr ⟨y1, y2, rfl, rfl, ?_⟩)
        rw [← h x (by simp), ← optmap_congr (ρ := ρ) (ρ' := ρ') (l := lo) (fun y hy => h y (by simp at hy; simp [hy])), ← h y1 (by simp), ← h y2 (by simp)]
        exact hA
    case fieldAddr s x f => simp only [ActN, Act1] at hA ⊢; rw [← h x (by simp)]; exact hA
    case field s x f => simp only [ActN, Act1] at hA ⊢; rw [← h x (by simp)]; exact hA
    case indexAddr t x i => simp only [ActN, Act1] at hA ⊢; rw [← h x (by simp), ← h i (by simp)]; exact hA
    case index t x i => simp only [ActN, Act1] at hA ⊢; rw [← h x (by simp), ← h i (by simp)]; exact hA
    case extract x i => simp only [ActN, Act1] at hA ⊢; rw [← h x (by simp)]; exact hA
    case call cl =>
      simp only [ActN] at hA ⊢
      split at hA
      · rw [← map_congr (ρ := ρ) (ρ' := ρ') (l := cl.args.toList) (fun x hx => h x (by simp at hx; simp [Call.operands, hx]))]; exact hA
      · exact hA.elim
  · refine .inr ⟨cl, rfl, ?_⟩
    obtain ⟨f, vals, ds, r, ls, u, b, bz, h1, rest⟩ := hA
    refine ⟨f, vals, ds, r, ls, u, b, bz, ?_, rest⟩
    simp only [Op.operands] at h
    rw [← map_congr (ρ := ρ) (ρ' := ρ') (l := cl.args.toList) (fun x hx => h x (by simp at hx; simp [Call.operands, hx]))]
    split at h1
    · rename_i g hg
      rw [← h g (by simp [Call.operands, hg])]
      exact h1
    · exact h1.elim
variable {H1 : Heap}
theorem obj_congr {o g : Nat} (h : H1 o = H o) : AVal.obj H1 o g = AVal.obj H o g := by unfold AVal.obj; rw [h]
theorem loadC_congr {p : AVal} {n : Nat} (h : ∀ k ∈ idsOf p, H1 k = H k) : loadC H1 p n = loadC H p n := by
  cases p <;> simp only [loadC]
  rw [obj_congr (h _ (by simp [idsOf]))]
theorem storeC_congr {p : AVal} {cs : List AVal} (h : ∀ k ∈ idsOf p, H1 k = H k) : storeC H1 p cs = storeC H p cs := by
  cases p <;> simp only [storeC]
  rw [obj_congr (h _ (by simp [idsOf]))]
theorem storeC_id {p : AVal} {cs : List AVal} {u : Nat × Obj} (h : storeC H p cs = some u) : u.1 ∈ idsOf p := by
  cases p <;> simp only [storeC] at h <;> try (cases h; done)
  simp only [Option.bind_eq_some_iff] at h
  obtain ⟨z, _, h⟩ := h
  split at h
  · simp only [Option.bind_eq_some_iff] at h
    obtain ⟨r, _, h⟩ := h
    split at h
    · injection h with h; subst h; simp [idsOf]
    · cases h
  · cases h
theorem srcR_congr {P : Program} {t : TypeId} {size : Nat} {x : AVal} {es : List (List AVal)} (h : ∀ k ∈ rd, H1 k = H k) (hs : SrcR P H t size x es rd) : SrcR P H1 t size x es rd := by
  unfold SrcR at hs ⊢
  split at hs
  · exact hs
  · obtain ⟨y, hy, h1, h2, h3, rfl⟩ := hs
    exact ⟨y, by rw [obj_congr (h _ (by simp))]; exact hy, h1, h2, h3, rfl⟩
  · exact hs
  · exact hs
  · exact hs
  · exact hs.elim
theorem newObj_congr {o st : Nat} {rows : List (List AVal)} (h : H1 o = H o) : newObj H1 o st rows = newObj H o st rows := by unfold newObj; rw [h]
mutual
theorem PkC.congr : ∀ {v d : AVal} {b : List Nat}, PkC H v d b → (∀ k ∈ b, H1 k = H k) → PkC H1 v d b
  | _, _, _, .plain hp, _ => .plain hp
  | _, _, _, .nilS, _ => .nilS
  | _, _, _, .agg hs, h => .agg (PkCs.congr hs h)
  | _, _, _, .tup hs, h => .tup (PkCs.congr hs h)
  | _, _, _, .fn h1 h2, h => .fn (PkCs.congr h1 (fun k hk => h k (List.mem_append_left _ hk))) (PkCs.congr h2 (fun k hk => h k (List.mem_append_right _ hk)))
  | _, _, _, .borS hy hle hs, h => .borS (by rw [obj_congr (h _ (List.mem_cons_self ..))]; exact hy) hle (PkRs.congr hs (fun k hk => h k (List.mem_cons_of_mem _ hk)))
  | _, _, _, .borP hy hr hs, h => .borP (by rw [obj_congr (h _ (List.mem_cons_self ..))]; exact hy) hr (PkCs.congr hs (fun k hk => h k (List.mem_cons_of_mem _ hk)))
theorem PkCs.congr : ∀ {vs ds : List AVal} {b : List Nat}, PkCs H vs ds b → (∀ k ∈ b, H1 k = H k) → PkCs H1 vs ds b
  | _, _, _, .nil, _ => .nil
  | _, _, _, .cons h1 hs, h => .cons (PkC.congr h1 (fun k hk => h k (List.mem_append_left _ hk))) (PkCs.congr hs (fun k hk => h k (List.mem_append_right _ hk)))
theorem PkRs.congr : ∀ {vs ds : List (List AVal)} {b : List Nat}, PkRs H vs ds b → (∀ k ∈ b, H1 k = H k) → PkRs H1 vs ds b
  | _, _, _, .nil, _ => .nil
  | _, _, _, .cons h1 hs, h => .cons (PkCs.congr h1 (fun k hk => h k (List.mem_append_left _ hk))) (PkRs.congr hs (fun k hk => h k (List.mem_append_right _ hk)))
end
mutual
theorem Pk.congr : ∀ {v d : AVal} {u b : List Nat}, Pk H v d u b → (∀ k ∈ u, H1 k = H k) → (∀ k ∈ b, H1 k = H k) → Pk H1 v d u b
  | _, _, _, _, .plain hp, _, _ => .plain hp
  | _, _, _, _, .nilS, _, _ => .nilS
  | _, _, _, _, .nilU, _, _ => .nilU
  | _, _, _, _, .agg hs, hu, h => .agg (Pks.congr hs hu h)
  | _, _, _, _, .tup hs, hu, h => .tup (Pks.congr hs hu h)
  | _, _, _, _, .fn h1 h2, _, h => .fn (PkCs.congr h1 (fun k hk => h k (List.mem_append_left _ hk))) (PkCs.congr h2 (fun k hk => h k (List.mem_append_right _ hk)))
  | _, _, _, _, .borS hy hle hs, _, h => .borS (by rw [obj_congr (h _ (List.mem_cons_self ..))]; exact hy) hle (PkRs.congr hs (fun k hk => h k (List.mem_cons_of_mem _ hk)))
  | _, _, _, _, .borP hy hr hs, _, h => .borP (by rw [obj_congr (h _ (List.mem_cons_self ..))]; exact hy) hr (PkCs.congr hs (fun k hk => h k (List.mem_cons_of_mem _ hk)))
  | _, _, _, _, .ownS hy hm hn hs, hu, h => .ownS (by rw [obj_congr (hu _ (List.mem_cons_self ..))]; exact hy) hm hn (PkRs.congr hs h)
  | _, _, _, _, .ownP hy hm hr hs, hu, h => .ownP (by rw [obj_congr (hu _ (List.mem_cons_self ..))]; exact hy) hm hr (Pks.congr hs (fun k hk => hu k (List.mem_cons_of_mem _ hk)) h)
theorem Pks.congr : ∀ {vs ds : List AVal} {u b : List Nat}, Pks H vs ds u b → (∀ k ∈ u, H1 k = H k) → (∀ k ∈ b, H1 k = H k) → Pks H1 vs ds u b
  | _, _, _, _, .nil, _, _ => .nil
  | _, _, _, _, .cons h1 hs, hu, h => .cons (Pk.congr h1 (fun k hk => hu k (List.mem_append_left _ hk)) (fun k hk => h k (List.mem_append_left _ hk))) (Pks.congr hs (fun k hk => hu k (List.mem_append_right _ hk)) (fun k hk => h k (List.mem_append_right _ hk)))
end
mutual
theorem opnU_ids : ∀ (v : AVal) (id : Nat), (opnU H1 id v).map (·.1) = (opnU H id v).map (·.1)
  | .usl _ _, _ => rfl
  | .uptr cs, id => by simp [opnU, opnUs_ids cs id 0]
  | .agg cs, id => by simp [opnU, opnUs_ids cs id 0]
  | .tup cs, id => by simp [opnU, opnUs_ids cs id 0]
  | .bool _, _ | .int _ _, _ | .str _, _ | .sc _, _ | .ptr _ _ _ _, _ | .iptr _, _ | .slice _ _, _ | .osl _ _ _ _, _ | .fn _ _ _, _ | .iface _ _, _ | .junk, _ => rfl
theorem opnUs_ids : ∀ (vs : List AVal) (id k : Nat), (opnUs H1 id k vs).map (·.1) = (opnUs H id k vs).map (·.1)
  | [], _, _ => rfl
  | v :: vs, id, k => by simp [opnUs, opnU_ids v (cid id k), opnUs_ids vs id (k + 1)]
end
mutual
theorem opn_congr : ∀ (v : AVal) (id : Nat), (∀ k ∈ (opnU H id v).map (·.1), H1 k = H k) → opnV H1 id v = opnV H id v ∧ opnU H1 id v = opnU H id v
  | .usl _ _, id, h => by have := h id (by simp [opnU]); simp [opnV, opnU, newObj, this]
  | .uptr cs, id, h => by
    simp only [opnU, List.map_append, List.map_cons, List.map_nil] at h
    have h1 := h id (by simp)
    have h2 := opns_congr cs id 0 (fun k hk => h k (List.mem_append_left _ hk))
    simp [opnV, opnU, newObj, h1, h2.1, h2.2]
  | .agg cs, id, h => by have h2 := opns_congr cs id 0 h; simp [opnV, opnU, h2.1, h2.2]
  | .tup cs, id, h => by have h2 := opns_congr cs id 0 h; simp [opnV, opnU, h2.1, h2.2]
  | .bool _, _, _ | .int _ _, _, _ | .str _, _, _ | .sc _, _, _ | .ptr _ _ _ _, _, _ | .iptr _, _, _ | .slice _ _, _, _ | .osl _ _ _ _, _, _ | .fn _ _ _, _, _ | .iface _ _, _, _ | .junk, _, _ => by simp [opnV, opnU]
theorem opns_congr : ∀ (vs : List AVal) (id k : Nat), (∀ q ∈ (opnUs H id k vs).map (·.1), H1 q = H q) → opnVs H1 id k vs = opnVs H id k vs ∧ opnUs H1 id k vs = opnUs H id k vs
  | [], _, _, _ => ⟨rfl, rfl⟩
  | v :: vs, id, k, h => by
    simp only [opnUs, List.map_append] at h
    have h1 := opn_congr v (cid id k) (fun q hq => h q (List.mem_append_left _ hq))
    have h2 := opns_congr vs id (k + 1) (fun q hq => h q (List.mem_append_right _ hq))
    simp [opnVs, opnUs, h1.1, h1.2, h2.1, h2.2]
end
theorem lentUp_congr : ∀ (os : List Nat) (ls : List AVal), (∀ k ∈ (lentUp H os ls).map (·.1), H1 k = H k) → lentUp H1 os ls = lentUp H os ls
  | [], _, _ => by simp [lentUp]
  | _ :: _, [], _ => by simp [lentUp]
  | o :: os, l :: ls, h => by
    cases l <;> simp only [lentUp] at h ⊢
    rename_i cs
    simp only [List.map_append, List.map_cons] at h
    have h1 := h o (by simp)
    have h2 := opns_congr cs o 0 (fun q hq => h q (List.mem_append_left _ hq))
    rw [h2.1, h2.2, h1, lentUp_congr os ls (fun k hk => h k (by simp at hk ⊢; exact .inr (.inr hk)))]
theorem callObj_congr {u lent : List Nat} {o : Nat} (h : H1 o = H o) : callObj H1 u lent o = callObj H u lent o := by unfold callObj; rw [h]
theorem callUp_congr {u lent b : List Nat} (h : ∀ k ∈ u ++ b, H1 k = H k) : callUp H1 u lent b = callUp H u lent b := by
  unfold callUp
  exact List.map_congr_left fun k hk => by rw [callObj_congr (h k hk)]
theorem callH_congr {u lent b : List Nat} {k : Nat} (h : H1 k = H k) : callH H1 u lent b k = callH H u lent b k := by
  unfold callH
  rw [callUp_get, callUp_get, callObj_congr h, h]
theorem act_local {op : Op} (hA : Acts E op dst ρ H v rd up) (h : ∀ k ∈ rd, H1 k = H k) : Acts E op dst ρ H1 v rd up ∧ ∀ k ∈ up.map (·.1), k ∈ rd := by
  rcases hA with hA | ⟨cl, rfl, hA⟩
  · cases op <;> simp only [ActN] at hA <;> try (exact hA.elim)
    case move x => obtain ⟨h1, rfl, rfl⟩ := hA; exact ⟨.inl ⟨h1, rfl, rfl⟩, by simp⟩
    case assign x =>
      rcases hA with ⟨h1, rfl, rfl⟩ | ⟨k, h1, rfl, rfl, rfl⟩
      · exact ⟨.inl (.inl ⟨h1, rfl, rfl⟩), by simp⟩
      · have e := h _ (List.mem_cons_self ..)
        exact ⟨.inl (.inr ⟨k, h1, by rw [e], rfl, by rw [newObj_congr e]⟩), by simp⟩
    case pick x y z => obtain ⟨t, h1, h2, rfl, rfl⟩ := hA; exact ⟨.inl ⟨t, h1, h2, rfl, rfl⟩, by simp⟩
    case alloc t =>
      obtain ⟨z, h1, rfl, rfl, rfl⟩ := hA
      have e := h _ (List.mem_cons_self ..)
      exact ⟨.inl ⟨z, h1, by rw [e], rfl, by rw [newObj_congr e]⟩, by simp⟩
    case box t x =>
      obtain ⟨h1, rfl, rfl, rfl⟩ := hA
      have e := h _ (List.mem_cons_self ..)
      exact ⟨.inl ⟨h1, by rw [e], rfl, by rw [newObj_congr e]⟩, by simp⟩
    case build t ps => obtain ⟨z, cs, h1, h2, h3, h4, rfl, rfl⟩ := hA; exact ⟨.inl ⟨z, cs, h1, h2, h3, h4, rfl, rfl⟩, by simp⟩
    case buildSlice t n ps =>
      rcases hA with ⟨size, z, rows, h1, h2, h3, h4, h5, h6, rfl, rfl, rfl⟩ | ⟨size, z, rows, h1, h2, h3, h4, h5, h6, h7, h8, rfl, rfl, rfl⟩
      · have e := h _ (List.mem_cons_self ..)
        exact ⟨.inl (.inl ⟨size, z, rows, h1, h2, h3, h4, h5, h6, by rw [e], rfl, by rw [newObj_congr e]⟩), by simp⟩
      · have e := h _ (List.mem_cons_self ..)
        exact ⟨.inl (.inr ⟨size, z, rows, h1, h2, h3, h4, h5, h6, h7, h8, rfl, rfl, by rw [newObj_congr e]⟩), by simp⟩
    case load t x =>
      obtain ⟨n, g, cs, h1, h2, h3, h4, h5, rfl, rfl⟩ := hA
      exact ⟨.inl ⟨n, g, cs, h1, h2, h3, by rw [loadC_congr h]; exact h4, h5, rfl, rfl⟩, by simp⟩
    case store t x y =>
      obtain ⟨n, u, h1, h2, h3, h4, h5, h6, rfl, rfl⟩ := hA
      exact ⟨.inl ⟨n, u, h1, h2, h3, h4, by rw [storeC_congr h]; exact h5, h6, rfl, rfl⟩, by simpa using storeC_id h5⟩
    case nilCheck x => obtain ⟨h1, h2, rfl, rfl⟩ := hA; exact ⟨.inl ⟨h1, h2, rfl, rfl⟩, by simp⟩
    case binOp op t x y u => obtain ⟨h1, rfl, rfl⟩ := hA; exact ⟨.inl ⟨h1, rfl, rfl⟩, by simp⟩
    case unOp op t x => obtain ⟨h1, rfl, rfl⟩ := hA; exact ⟨.inl ⟨h1, rfl, rfl⟩, by simp⟩
    case sliceToArrayPointer t x => obtain ⟨h1, rfl, rfl⟩ := hA; exact ⟨.inl ⟨h1, rfl, rfl⟩, by simp⟩
    case convert s d x =>
      rcases hA with hA | hA | hA
      · obtain ⟨rfl, rfl, h1⟩ := hA; exact ⟨.inl (.inl ⟨rfl, rfl, h1⟩), by simp⟩
      · simp only [Act2] at hA
        split at hA
        · rename_i l q
          obtain ⟨h1, h2, h3, rfl, rfl, rfl⟩ := hA
          have e := h _ (List.mem_cons_self ..)
          refine ⟨.inl (.inr (.inl ?_)), by simp⟩
          simp only [Act2]
          rw [q]
          exact ⟨h1, h2, h3, by rw [e], trivial, by rw [newObj_congr e]⟩
        · rename_i q
          obtain ⟨h1, h2, rfl, l, h3, h4⟩ := hA
          refine ⟨.inl (.inr (.inl ?_)), by simp⟩
          simp only [Act2]
          have h5 := srcR_congr h h3
          exact ⟨h1, h2, trivial, l, h5, h4⟩
      · obtain ⟨o, g, i, n, h1, h2, h3, h4, h5, h6, rfl, rfl, rfl⟩ := hA
        have e := h _ (List.mem_cons_self ..)
        exact ⟨.inl (.inr (.inr ⟨o, g, i, n, h1, h2, h3, h4, by rw [e]; exact h5, by rw [e]; exact h6, rfl, rfl, by rw [e]⟩)), by simp⟩
    case makeFunc f fs cs => obtain ⟨h1, rfl, rfl⟩ := hA; exact ⟨.inl ⟨h1, rfl, rfl⟩, by simp⟩
    case makeSlice t l k =>
      obtain ⟨kl, nl, kc, nc, size, bytes, z, h1, h2, h3, h4, h5, h6, h7, h8, h9, h10, h11, rfl, rfl, rfl⟩ := hA
      have e := h _ (List.mem_cons_self ..)
      exact ⟨.inl ⟨kl, nl, kc, nc, size, bytes, z, h1, h2, h3, h4, h5, h6, h7, h8, h9, h10, h11, by rw [e], rfl, by simp only [newObjX]; rw [e]⟩, by simp⟩
    case slice t x lo hi mx =>
      rcases hA with ⟨rfl, h1, h2⟩ | ⟨hmx, o, g, i, j, n, r, hh, bb, h1, h2, h3, h4, h5, h6, h7, h8, h9, rfl, rfl, rfl⟩ | ⟨y1, y2, z1, z2, hA⟩
      · refine ⟨.inl (.inl ⟨rfl, h1, ?_⟩), by simp⟩
        split at h2
        · exact h2
        · exact h2
        · obtain ⟨rfl, y, hh, bb, hy, h3⟩ := h2
          exact ⟨rfl, y, hh, bb, by rw [obj_congr (h _ (by simp))]; exact hy, h3⟩
        · exact h2.elim
      · have e := h _ (List.mem_cons_self ..)
        exact ⟨.inl (.inr (.inl ⟨hmx, o, g, i, j, n, r, hh, bb, h1, by rw [e]; exact h2, by rw [e]; exact h3, h4, by rw [e]; exact h5, h6, h7, h8, h9, rfl, rfl, by rw [e]⟩)), by simp⟩
      · unfold ActS3 at hA
        split at hA
        · rename_i o g i n q
          obtain ⟨h1, h2, h3, h5, m, hh, bb, h7, h8, h9, h6⟩ := hA
          rcases h6 with ⟨ha, hb, hc, hd, rfl, rfl, rfl⟩ | ⟨h6, rfl, rfl, rfl⟩ | ⟨rfl, rfl, rfl⟩
          case inr.inr =>
            have e := h _ (List.mem_cons_self ..)
            refine ⟨.inl (.inr (.inr ⟨y1, y2, z1, z2, ?_⟩)), by simp⟩
            unfold ActS3
            rw [q]
            exact ⟨by rw [e]; exact h1, by rw [e]; exact h2, by rw [e]; exact h3, by rw [e]; exact h5, m, hh, bb, by rw [e]; exact h7, h8, h9, .inr (.inr ⟨rfl, rfl, rfl⟩)⟩
          · have e := h _ (List.mem_cons_self ..)
            refine ⟨.inl (.inr (.inr ⟨y1, y2, z1, z2, ?_⟩)), by simp⟩
            unfold ActS3
            rw [q]
            exact ⟨by rw [e]; exact h1, by rw [e]; exact h2, by rw [e]; exact h3, by rw [e]; exact h5, m, hh, bb, by rw [e]; exact h7, h8, h9, .inl ⟨ha, by rw [e]; exact hb, hc, hd, by rw [e], rfl, by rw [e]⟩⟩
          · have e := h _ (List.mem_cons_self ..)
            refine ⟨.inl (.inr (.inr ⟨y1, y2, z1, z2, ?_⟩)), by simp⟩
            unfold ActS3
            rw [q]
            exact ⟨by rw [e]; exact h1, by rw [e]; exact h2, by rw [e]; exact h3, by rw [e]; exact h5, m, hh, bb, by rw [e]; exact h7, h8, h9, .inr (.inl ⟨by rw [e]; exact h6, by rw [e], rfl, by rw [e]⟩)⟩
        · rename_i st es q
          obtain ⟨h1, m, hh, bb, h7, h8, h9, rfl, rfl, rfl⟩ := hA
          refine ⟨.inl (.inr (.inr ⟨y1, y2, z1, z2, ?_⟩)), by simp⟩
          unfold ActS3
          rw [q]
          exact ⟨h1, m, hh, bb, h7, h8, h9, rfl, rfl, rfl⟩
        · exact hA.elim
    case fieldAddr s x f => obtain ⟨off, n, g, h1, rfl, rfl, h2⟩ := hA; exact ⟨.inl ⟨off, n, g, h1, rfl, rfl, h2⟩, by simp⟩
    case field s x f => obtain ⟨off, n, g, cs, h1, h2, h3, h4, h5, rfl, rfl⟩ := hA; exact ⟨.inl ⟨off, n, g, cs, h1, h2, h3, h4, h5, rfl, rfl⟩, by simp⟩
    case indexAddr t x i =>
      obtain ⟨kk, n, h1, h0, rfl, h2⟩ := hA
      refine ⟨.inl ⟨kk, n, h1, h0, rfl, ?_⟩, by simp⟩
      split at h2
      · exact h2
      · obtain ⟨rfl, y, hy, h3⟩ := h2
        exact ⟨rfl, y, by rw [obj_congr (h _ (by simp))]; exact hy, h3⟩
      · exact h2
      · exact h2
      · exact h2.elim
    case index t x i => obtain ⟨kk, n, h1, h0, rfl, rfl, h2⟩ := hA; exact ⟨.inl ⟨kk, n, h1, h0, rfl, rfl, h2⟩, by simp⟩
    case extract x i => obtain ⟨vs, h1, h2, rfl, rfl⟩ := hA; exact ⟨.inl ⟨vs, h1, h2, rfl, rfl⟩, by simp⟩
    case call cl =>
      split at hA
      case h_2 => exact hA.elim
      rename_i b hb
      suffices hs : ActB E.P b cl.argTypes dst (cl.args.toList.map ρ) H1 v rd up ∧ ∀ k ∈ up.map (·.1), k ∈ rd by
        refine ⟨.inl ?_, hs.2⟩
        simp only [ActN, hb]
        exact hs.1
      generalize cl.args.toList.map ρ = xs at hA
      unfold ActB at hA ⊢
      split at hA
      · obtain ⟨rfl, t, ht, h2⟩ := hA
        refine ⟨⟨rfl, t, ht, ?_⟩, by simp⟩
        split at h2
        · exact h2
        · exact h2
        · obtain ⟨h3, rfl, h4, h5⟩ := h2
          exact ⟨h3, rfl, by rw [obj_congr (h _ (by simp))]; exact h4, h5⟩
        · exact h2
        · exact h2
        · exact h2.elim
      · obtain ⟨rfl, t, o, g, i, n, ht, h0, h3, rfl, y, hy, h4, h5⟩ := hA
        exact ⟨⟨rfl, t, o, g, i, n, ht, h0, h3, rfl, y, by rw [obj_congr (h _ (by simp))]; exact hy, h4, h5⟩, by simp⟩
      · obtain ⟨rfl, rfl, h2⟩ := hA; exact ⟨⟨rfl, rfl, h2⟩, by simp⟩
      · obtain ⟨rfl, rfl, h2⟩ := hA; exact ⟨⟨rfl, rfl, h2⟩, by simp⟩
      · obtain ⟨t, size, z, o, g, i, n, y, h1, h2, h3, h4, h5, h6, hy, h8, h9, h10, h11, rfl, rfl⟩ := hA
        have e := h _ (List.mem_cons_self ..)
        exact ⟨⟨t, size, z, o, g, i, n, y, h1, h2, h3, h4, h5, h6, by rw [obj_congr e]; exact hy, h8, h9, h10, h11, rfl, rfl⟩, by simp⟩
      · rcases hA with ⟨t, u, size, bytes, z, o, g, i, n, kk, k, y, h1, h2, h3, h4, h5, h6, h7, h8, h9, hy, h11, h12, h13, h14, ⟨g1, g2, g3, rfl, rfl⟩ | ⟨g1, g2, g3, rfl, rfl⟩⟩ | ⟨t, u, size, es, rd', o, g, i, n, y, h1, h2, h3, h4, h5, h6, h7, hy, h9, h10, h11, h12, rfl, rfl⟩ | hA
        · have e := h _ (List.mem_cons_self ..)
          have e' := h o (by simp)
          exact ⟨.inl ⟨t, u, size, bytes, z, o, g, i, n, kk, k, y, h1, h2, h3, h4, h5, h6, h7, h8, h9, by rw [obj_congr e']; exact hy, h11, h12, h13, h14, .inl ⟨g1, g2, by rw [e]; exact g3, rfl, by rw [newObj_congr e]⟩⟩, by simp⟩
        · have e' := h o (by simp)
          exact ⟨.inl ⟨t, u, size, bytes, z, o, g, i, n, kk, k, y, h1, h2, h3, h4, h5, h6, h7, h8, h9, by rw [obj_congr e']; exact hy, h11, h12, h13, h14, .inr ⟨g1, g2, g3, rfl, rfl⟩⟩, by simp⟩
        · have e := h _ (List.mem_cons_self ..)
          exact ⟨.inr (.inl ⟨t, u, size, es, rd', o, g, i, n, y, h1, h2, h3, h4, srcR_congr (fun k hk => h k (List.mem_cons_of_mem _ hk)) h5, h6, h7, by rw [obj_congr e]; exact hy, h9, h10, h11, h12, rfl, rfl⟩), by simp⟩
        obtain ⟨t, u, size, bytes, z, es, rd', h1, h2, h3, h4, h5, h6, h7, h8, h9, h10⟩ := hA
        split at h10
        · obtain ⟨q1, q2, q3, rfl, rfl⟩ := h10
          have e := h _ (List.mem_cons_self ..)
          exact ⟨.inr (.inr ⟨t, u, size, bytes, z, es, rd', h1, h2, h3, h4, h5, h6, h7, srcR_congr (fun k hk => h k (List.mem_cons_of_mem _ hk)) h8, h9, q1, q2, by rw [e]; exact q3, rfl, by rw [newObj_congr e]⟩), by simp⟩
        · obtain ⟨y, q0, q1, q2, q3, q4, q5, q6, rfl, rfl⟩ := h10
          have e := h _ (List.mem_cons_self ..)
          exact ⟨.inr (.inr ⟨t, u, size, bytes, z, es, rd', h1, h2, h3, h4, h5, h6, h7, srcR_congr (fun k hk => h k (List.mem_cons_of_mem _ hk)) h8, h9, y, by rw [obj_congr e]; exact q0, q1, q2, q3, q4, q5, q6, rfl, rfl⟩), by simp⟩
        · exact h10.elim
      · obtain ⟨t, u, size, es, rd', h1, h2, h3, h5⟩ := hA
        split at h5
        · obtain ⟨y, q0, q1, q2, q3, q4, q5, rfl, rfl⟩ := h5
          have e := h _ (List.mem_cons_self ..)
          exact ⟨⟨t, u, size, es, rd', h1, h2, srcR_congr (fun k hk => h k (List.mem_cons_of_mem _ hk)) h3, y, by rw [obj_congr e]; exact q0, q1, q2, q3, q4, q5, rfl, rfl⟩, by simp⟩
        · exact h5.elim
      · exact hA.elim
  · obtain ⟨f, vals, ds, r, ls, u, b, bz, h1, h2, h3, h4, h5, h6, h7, h8, h9, h10, rfl, rfl, rfl⟩ := hA
    have hu : ∀ k ∈ u, H1 k = H k := fun k hk => h k (by simp [hk])
    have hb : ∀ k ∈ b, H1 k = H k := fun k hk => h k (by simp [hk])
    have hbz : ∀ k ∈ bz, H1 k = H k := fun k hk => by
      rcases h7 with rfl | ⟨rfl, _⟩
      · exact hb k hk
      · simp at hk
    have hup : ∀ k ∈ (opnU (callH H u (lents vals ds) bz) (site dst) r ++ lentUp (callH H u (lents vals ds) bz) (lents vals ds) ls).map (·.1), callH H1 u (lents vals ds) bz k = callH H u (lents vals ds) bz k := fun k hk => callH_congr (h k (by
      simp only [List.map_append, List.mem_append] at hk ⊢
      exact .inr (.inr hk)))
    have e1 := opn_congr r (site dst) (fun k hk => hup k (by rw [List.map_append]; exact List.mem_append_left _ hk))
    have e2 := lentUp_congr (lents vals ds) ls (fun k hk => hup k (by rw [List.map_append]; exact List.mem_append_right _ hk))
    have e3 : callUp H1 u (lents vals ds) bz = callUp H u (lents vals ds) bz := callUp_congr fun k hk => by
      rcases List.mem_append.1 hk with hk | hk
      · exact hu k hk
      · exact hbz k hk
    have hst : ∀ o ∈ lents vals ds, (H1 o).st = (H o).st := fun o ho => by rw [hu o (lents_mem h3 o ho).1]
    refine ⟨.inr ⟨cl, rfl, f, vals, ds, r, ls, u, b, bz, h1, h2, Pks.congr h3 hu hb, h4, h5, h6.imp (fun _ hx => ⟨hx.1, hx.2.congr hu⟩), h7, h8, fun k o l q1 q2 => by rw [hst o (List.mem_of_getElem? q1)]; exact h9 k o l q1 q2, by rw [e1.2, e2]; exact h10, by rw [e1.1], by rw [e1.2, e2, e3], rfl⟩, fun k hk => List.mem_append_right _ hk⟩
end
end Go.Am
