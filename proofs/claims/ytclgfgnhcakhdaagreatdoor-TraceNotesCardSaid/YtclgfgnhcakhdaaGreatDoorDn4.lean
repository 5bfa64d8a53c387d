import Derived.Test.YtclgfgnhcakhdaaGreatDoorDn3
namespace Go.Am
set_option linter.unusedSectionVars false
set_option linter.unusedVariables false
set_option linter.unusedSimpArgs false
structure Cf where
  E : Env
  M : Mds
  X : Own
noncomputable def fn (C : Cf) : Orc := fnE C.E C.M C.X
noncomputable def il (C : Cf) : Inl := inE C.E C.M C.X
noncomputable def fp (C : Cf) : Or2 := fnP C.E C.M C.X
section
variable {α β : Type}
def kB (x : Option α) [K : Hold (α → Option β)] : Option β := x.bind K.val
def kG (p : Prop) [Decidable p] [K : Hold (Option β)] : Option β := if p then K.val else none
def kIf (t : Bool) [K : Hold (Option β × Option β)] : Option β := if t = true then K.val.1 else K.val.2
def kD (p : Prop) [Decidable p] (a : p → Option β) (b : ¬ p → Option β) : Option β := if h : p then a h else b h
def kT (v : AVal) [K : Hold (Bool → Option β)] : Option β := match v with | .bool t => K.val t | _ => none
def kU (v : AVal) [K : Hold (Option β × Option β × Option β)] : Option β := match v with | .bool t => if t = true then K.val.1 else K.val.2.1 | .sc (.tuple ⟨[]⟩) => K.val.2.2 | _ => none
def kI (v : AVal) [K : Hold (IntKind → Int → Option β)] : Option β := match v with | .int k n => K.val k n | _ => none
def kF (v : AVal) [K : Hold (FuncId → List AVal → List AVal → Option β)] : Option β := match v with | .fn (.func f) fs cs => K.val f fs cs | _ => none
theorem kB_some (a : α) (K : α → Option β) : @kB _ _ (some a) ⟨K⟩ = K a := rfl
theorem kB_none (K : α → Option β) : @kB α _ none ⟨K⟩ = none := rfl
theorem kB_gu (p : Prop) [Decidable p] (x : Option α) (K : α → Option β) : @kB _ _ (gu p x) ⟨K⟩ = @kG _ p _ ⟨@kB _ _ x ⟨K⟩⟩ := by
  unfold gu kG; split <;> rfl
theorem kG_of {p : Prop} [Decidable p] (h : p) (x : Option β) : @kG _ p _ ⟨x⟩ = x := by simp [kG, h]
theorem kIf_true (a b : Option β) : @kIf _ true ⟨(a, b)⟩ = a := rfl
theorem kIf_false (a b : Option β) : @kIf _ false ⟨(a, b)⟩ = b := rfl
theorem kIf_bool (t : Bool) (a b : Option β) : @kIf _ t ⟨(a, b)⟩ = kD (t = true) (fun _ => a) (fun _ => b) := by cases t <;> rfl
theorem kD_congr {p p' : Prop} {_ : Decidable p} [Decidable p'] {a : p → Option β} {a' : p' → Option β} {b : ¬ p → Option β} {b' : ¬ p' → Option β} (h : p = p') (h1 : (x : p') → a (h.mpr x) = a' x) (h2 : (x : ¬ p') → b (h.mpr_not x) = b' x) : kD p a b = kD p' a' b' := dite_congr h h1 h2
theorem kD_false {h : Decidable False} (a : False → Option β) (b : ¬ False → Option β) : @kD _ False h a b = b not_false := by simp [kD]
theorem kD_same (p : Prop) [Decidable p] (a : Option β) : kD p (fun _ => a) (fun _ => a) = a := by simp [kD]
theorem kT_bool (t : Bool) (K : Bool → Option β) : @kT _ (.bool t) ⟨K⟩ = K t := rfl
theorem kU_bool (t : Bool) (a b c : Option β) : @kU _ (.bool t) ⟨(a, b, c)⟩ = @kIf _ t ⟨(a, b)⟩ := rfl
theorem kU_undef (a b c : Option β) : @kU _ (.sc undef) ⟨(a, b, c)⟩ = c := rfl
theorem kI_int (k n) (K : IntKind → Int → Option β) : @kI _ (.int k n) ⟨K⟩ = K k n := rfl
theorem kF_fn (f fs cs) (K : FuncId → List AVal → List AVal → Option β) : @kF _ (.fn (.func f) fs cs) ⟨K⟩ = K f fs cs := rfl
end
def thenK (n : St → Option Res) (Q : Exit → St → Option Res) : Exit → St → Option Res
  | .normal, s => n s
  | e, s => Q e s
def inBK (id : Nat) (Q : Exit → St → Option Res) : Exit → St → Option Res
  | .exit i, s => if i = id then Q .normal s else Q (.exit i) s
  | e, s => Q e s
def noGK (Q : Exit → St → Option Res) : Exit → St → Option Res
  | .goto _, _ => none
  | e, s => Q e s
noncomputable def dw (C : Cf) (lo : Nat) (c : Code) (Q : Exit → St → Option Res) (s : St) : Option Res := (evI C.E C.M C.X lo c s).bind fun p => Q p.1 p.2
noncomputable def kLoop (f : Nat → AVal) (H : Heap) [K : Hold (Cf × Nat × Code × (Exit → St → Option Res))] : Option Res := dw K.val.1 K.val.2.1 (.loop K.val.2.2.1) K.val.2.2.2 ⟨f, H⟩
noncomputable def rN (C : Cf) (ops : Array Oper) (l : List Oper) (s : St) (K : St → Option Res) : Option Res := (regN C.E C.M (fp C) ops l s).bind K
noncomputable def rD (C : Cf) (ops : Array Oper) (l : List Oper) (s : St) (tr : List (List Nat × List Nat)) (K : St → Option Res) : Option Res := (regD C.E C.M (fp C) ops l s tr).bind K
def restrK (lo : Nat) (Q : Exit → St → Option Res) : St → Option Res := fun s => Q .normal ⟨restr lo s.fr, s.H⟩
noncomputable def kStep (f : Nat → AVal) (H : Heap) [K : Hold (Cf × Array Oper × Oper × (St → List Nat → List Nat → Option Res))] : Option Res :=
  (stepE K.val.1.E K.val.1.M (fp K.val.1) K.val.2.1 K.val.2.2.1 ⟨f, H⟩).bind fun q => K.val.2.2.2 q.1 q.2.1 q.2.2
def kInd [K : Hold (Array Oper × List (List Nat × List Nat) × Option Res)] : Option Res := if indepB K.val.1 K.val.2.1 = true then K.val.2.2 else none
section
variable (C : Cf) (lo : Nat) (Q : Exit → St → Option Res) (f : Nat → AVal) (H : Heap) (s : St)
theorem dw_skip : dw C lo .skip Q s = Q .normal s := by simp [dw, evI_skip]
theorem dw_label (l) : dw C lo (.label l) Q s = Q .normal s := by simp [dw, evI_label]
theorem dw_exit (l) : dw C lo (.exit l) Q s = Q (.exit l) s := by simp [dw, evI_exit]
theorem dw_ret : dw C lo .ret Q s = Q .ret s := by simp [dw, evI_ret]
theorem dw_seq (a b) : dw C lo (.seq a b) Q s = dw C lo a (thenK (dw C lo b Q) Q) s := by
  simp only [dw, evI_seq, Option.bind_assoc]
  congr 1
  funext p
  obtain ⟨e, s'⟩ := p
  cases e <;> rfl
theorem dw_cond (x a b) : dw C lo (.cond x a b) Q ⟨f, H⟩ = @kT _ (ev C.E.Γ f x) ⟨fun t => @kIf _ t ⟨(dw C lo a Q ⟨f, H⟩, dw C lo b Q ⟨f, H⟩)⟩⟩ := by
  simp only [dw, evI_cond, kT]
  cases ev C.E.Γ f x <;> try rfl
  rename_i t
  cases t <;> rfl
theorem dw_block (id b) : dw C lo (.block id b) Q s = dw C lo b (inBK id Q) s := by
  simp only [dw, evI_block, Option.bind_assoc]
  congr 1
  funext p
  obtain ⟨e, s'⟩ := p
  cases e <;> try rfl
  rename_i i
  simp only [inBK]
  split <;> rfl
theorem dw_scope (b) : dw C lo (.scope b) Q s = dw C lo b (noGK Q) s := by
  simp only [dw, evI_scope, Option.bind_assoc]
  congr 1
  funext p
  obtain ⟨e, s'⟩ := p
  cases e <;> rfl
theorem noGK_n : noGK Q .normal s = Q .normal s := rfl
theorem noGK_r : noGK Q .ret s = Q .ret s := rfl
theorem noGK_e (i) : noGK Q (.exit i) s = Q (.exit i) s := rfl
theorem dw_loop (b) : dw C lo (.loop b) Q ⟨f, H⟩ = @kLoop f H ⟨(C, lo, b, Q)⟩ := rfl
theorem kLoop_eq (b) : @kLoop f H ⟨(C, lo, b, Q)⟩ = dw C lo b (thenK (fun s => @kLoop s.fr s.H ⟨(C, lo, b, Q)⟩) Q) ⟨f, H⟩ := by
  simp only [kLoop, dw]
  rw [evI_loop, Option.bind_assoc]
  congr 1
  funext p
  obtain ⟨e, s'⟩ := p
  cases e <;> rfl
theorem dw_regF (id ops) : dw C lo (.region id ⟨ops⟩ false) Q s = rN C ⟨ops⟩ ops s (restrK lo Q) := by
  simp only [dw, evI_region, rN, Bool.false_eq_true, if_false, Option.bind_assoc, Option.bind_some]; rfl
theorem dw_regT (id ops) : dw C lo (.region id ⟨ops⟩ true) Q s = rD C ⟨ops⟩ ops s [] (restrK lo Q) := by
  simp only [dw, evI_region, rD, if_true, Option.bind_assoc, Option.bind_some]; rfl
theorem restrK_eq : restrK lo Q ⟨f, H⟩ = Q .normal ⟨restr lo f, H⟩ := rfl
theorem restr_upd (t : Nat) (v : AVal) : restr lo (upd f t v) = if (lo >>> t) % 2 = 1 then restr lo f else upd (restr lo f) t v := by
  funext i
  unfold restr upd
  by_cases hi : i = t
  · subst hi
    by_cases h : (lo >>> i) % 2 = 1 <;> simp [h]
  · by_cases h : (lo >>> t) % 2 = 1 <;> simp [h, hi]
theorem restr_restr : restr lo (restr lo f) = restr lo f := by
  funext i; unfold restr; split <;> rfl
theorem restr_at (t : Nat) : restr lo f t = if (lo >>> t) % 2 = 1 then .junk else f t := rfl
theorem restr_junk : restr lo (fun _ => AVal.junk) = fun _ => AVal.junk := by
  funext i; unfold restr; split <;> rfl
theorem thenK_n (n : St → Option Res) : thenK n Q .normal s = n s := rfl
theorem thenK_r (n : St → Option Res) : thenK n Q .ret s = Q .ret s := rfl
theorem thenK_e (n : St → Option Res) (i) : thenK n Q (.exit i) s = Q (.exit i) s := rfl
theorem inBK_n (id) : inBK id Q .normal s = Q .normal s := rfl
theorem inBK_r (id) : inBK id Q .ret s = Q .ret s := rfl
theorem inBK_e (id i) : inBK id Q (.exit i) s = if i = id then Q .normal s else Q (.exit i) s := rfl
end
section
variable (C : Cf) (ops : Array Oper) (f : Nat → AVal) (H : Heap)
theorem rN_nil (s K) : rN C ops [] s K = K s := rfl
theorem rN_cons (o l K) : rN C ops (o :: l) ⟨f, H⟩ K = @kStep f H ⟨(C, ops, o, fun s' _ _ => rN C ops l s' K)⟩ := by
  simp only [rN, regN, kStep, Option.bind_assoc]
theorem rD_nil (s tr K) : rD C ops [] s tr K = @kInd ⟨(ops, tr, K s)⟩ := by
  simp only [rD, regD, kInd, gu]; split <;> rfl
theorem rD_cons (o l tr K) : rD C ops (o :: l) ⟨f, H⟩ tr K = @kStep f H ⟨(C, ops, o, fun s' rd wr => rD C ops l s' (tr ++ [(rd, wr)]) K)⟩ := by
  simp only [rD, regD, kStep, Option.bind_assoc]
theorem kInd_of (tr K) (h : indepB ops tr = true) : @kInd ⟨(ops, tr, K)⟩ = K := by simp [kInd, h]
theorem kStep_n0 (d op ty pos af K) : @kStep f H ⟨(C, ops, ⟨d, op, ty, pos, af, none⟩, K)⟩ = @kB _ _ (opS C.E C.M (fp C) op d (ev C.E.Γ f) H) ⟨fun q => K ⟨putF f d q.1, q.2.1⟩ (ldT C.E (nlkD C.M.cur d) op (ev C.E.Γ f) q.2.2.1) q.2.2.2⟩ := by
  simp only [kStep, stepE, Option.bind_assoc, kB]; rfl
theorem kStep_gT0 (d op ty pos af j K) : @kStep f H ⟨(C, ops, ⟨d, op, ty, pos, af, some (j, true)⟩, K)⟩ = @kB _ _ (gd ops j) ⟨fun e => @kU _ (f e)
    ⟨(@kB _ _ (opS C.E C.M (fp C) op d (ev C.E.Γ f) H) ⟨fun q => K ⟨putF f d q.1, q.2.1⟩ q.2.2.1 q.2.2.2⟩, K ⟨putF f d (.sc undef), H⟩ [] [], K ⟨putF f d (.sc undef), H⟩ [] [])⟩⟩ := by
  show ((((ops[j]?).bind (·.dst)).bind _).bind _) = ((ops[j]?).bind (·.dst)).bind _
  rw [Option.bind_assoc]
  congr 1; funext e; unfold kU
  simp only
  cases f e <;> try rfl
  case bool t => cases t <;> simp [kB, Option.bind_assoc]
  case sc x =>
    cases x <;> try rfl
    rename_i arr
    obtain ⟨l⟩ := arr
    cases l <;> rfl
theorem kStep_gF0 (d op ty pos af j K) : @kStep f H ⟨(C, ops, ⟨d, op, ty, pos, af, some (j, false)⟩, K)⟩ = @kB _ _ (gd ops j) ⟨fun e => @kU _ (f e)
    ⟨(K ⟨putF f d (.sc undef), H⟩ [] [], @kB _ _ (opS C.E C.M (fp C) op d (ev C.E.Γ f) H) ⟨fun q => K ⟨putF f d q.1, q.2.1⟩ q.2.2.1 q.2.2.2⟩, K ⟨putF f d (.sc undef), H⟩ [] [])⟩⟩ := by
  show ((((ops[j]?).bind (·.dst)).bind _).bind _) = ((ops[j]?).bind (·.dst)).bind _
  rw [Option.bind_assoc]
  congr 1; funext e; unfold kU
  simp only
  cases f e <;> try rfl
  case bool t => cases t <;> simp [kB, Option.bind_assoc]
  case sc x =>
    cases x <;> try rfl
    rename_i arr
    obtain ⟨l⟩ := arr
    cases l <;> rfl
def kC {β : Type} (m : Nat) [K : Hold (Option β × Option β)] : Option β := if m = 0 then K.val.1 else K.val.2
theorem kC_zero {β : Type} (a b : Option β) : @kC _ 0 ⟨(a, b)⟩ = a := rfl
theorem kC_succ {β : Type} (n : Nat) (a b : Option β) : @kC _ (n + 1) ⟨(a, b)⟩ = b := rfl
def kBt {β : Type} (vals : List AVal) [K : Hold (Nat → Nat → Option β)] : Option β := match vals with | .ptr o _ _ c :: _ => K.val o (c + 1) | _ => none
theorem kBt_ptr {β : Type} (o g i c l) (K : Nat → Nat → Option β) : @kBt _ (.ptr o g i c :: l) ⟨K⟩ = K o (c + 1) := rfl
def ldR (k : Nat) (z : Option Nat) (p : AVal) (rd : List Nat) : List Nat := if k = 8 then (match p with | .ptr o _ _ c => if z = some 1 ∧ c < 100 then [LDC o c] else rd | _ => rd) else rd
theorem ldR_zero (z p rd) : ldR 0 z p rd = rd := rfl
theorem opS_not {op : Op} (h : ∀ ρ, inlF C.M op ρ = none) (d ρ H) {β : Type} (K : Stp → Option β) : @kB _ _ (opS C.E C.M (fp C) op d ρ H) ⟨K⟩ = @kB _ _ (opE C.E C.M (fn C) op d ρ H) ⟨fun q => K (q.1, H.setAll q.2.2, q.2.1, q.2.2.map (·.1))⟩ := by
  unfold opS
  rw [h ρ]
  simp only [kB, Option.bind_assoc, Option.bind_some]
  rfl
theorem opS_call (g args ts d ρ H) {β : Type} (K : Stp → Option β) : @kB _ _ (opS C.E C.M (fp C) (.call ⟨.value g, ⟨args⟩, ts⟩) d ρ H) ⟨K⟩ = @kF _ (ρ g) ⟨fun h first cap => @kC _ (inlB C.M.inls h)
    ⟨(@kB _ _ (callE C.E C.M (ghO C.M.gh d ρ (fn C)) h (first ++ args.map ρ ++ cap) (shD C.M.base d) H) ⟨fun q => K (q.1, H.setAll q.2.2, q.2.1, q.2.2.map (·.1))⟩,
      @kG _ (C.E.P.inFn h = true) _ ⟨@kB _ _ (il C h (first ++ args.map ρ ++ cap) H) ⟨fun r => @kC _ (inlB C.M.inls h % 2) ⟨(@kC _ (inlB C.M.inls h % 4) ⟨(K (r.1, r.2, [ALL], [ALL]), @kBt _ (first ++ args.map ρ ++ cap) ⟨fun o c => @kG _ (KeepB H r.2 o c) (Classical.propDecidable _) ⟨K (r.1, r.2, [ALL], [BUT o c])⟩⟩)⟩, @kG _ (r.2 = H) (Classical.propDecidable _) ⟨K (r.1, H, [ALL], [])⟩)⟩⟩⟩)⟩⟩ := by
  unfold opS inlF
  simp only
  cases hg : ρ g <;> try (simp only [kF, opE, hg, kB]; rfl)
  rename_i h first cap
  cases h <;> try (simp only [kF, opE, hg, kB]; rfl)
  rename_i h
  simp only [kF, kC]
  by_cases hz : inlB C.M.inls h = 0
  · simp only [hz, if_true, opE, hg, kB, Option.bind_assoc, Option.bind_some]
    rfl
  · by_cases hgo : C.E.P.inFn h = true
    · simp only [hz, if_false, kB, kG, gu, if_pos hgo, Option.bind_assoc, Option.bind_some]
      refine congrArg (fun F => Option.bind _ F) (funext fun r => ?_)
      unfold pureS kC
      by_cases hm : inlB C.M.inls h % 2 = 0
      · simp only [hm, if_true]
        by_cases hm4 : inlB C.M.inls h % 4 = 0
        · simp only [hm4, if_true, Option.bind_some]
        · simp only [hm4, if_false]
          unfold kBt
          generalize first ++ args.map ρ ++ cap = L
          cases L with
          | nil => rfl
          | cons a l =>
            cases a <;> try rfl
            simp only
            unfold gu kG
            split <;> rfl
      · simp only [hm, if_false]
        unfold gu kG
        by_cases hr : r.2 = H
        · simp only [hr, if_true, Option.bind_some]
        · simp only [hr, if_false, Option.bind_none]
    · simp only [hz, if_false, kB, kG, gu, if_neg hgo, Option.bind_none]
theorem kn_move (d x ty pos af K) : @kStep f H ⟨(C, ops, ⟨d, .move x, ty, pos, af, none⟩, K)⟩ = @kB _ _ (opE C.E C.M (fn C) (.move x) d (ev C.E.Γ f) H) ⟨fun q => K ⟨putF f d q.1, H.setAll q.2.2⟩ q.2.1 (q.2.2.map (·.1))⟩ := by
  rw [kStep_n0, opS_not C (fun _ => rfl)]; first | done | rfl
theorem kt_move (d x ty pos af j K) : @kStep f H ⟨(C, ops, ⟨d, .move x, ty, pos, af, some (j, true)⟩, K)⟩ = @kB _ _ (gd ops j) ⟨fun e => @kU _ (f e) ⟨(@kB _ _ (opE C.E C.M (fn C) (.move x) d (ev C.E.Γ f) H) ⟨fun q => K ⟨putF f d q.1, H.setAll q.2.2⟩ q.2.1 (q.2.2.map (·.1))⟩, K ⟨putF f d (.sc undef), H⟩ [] [], K ⟨putF f d (.sc undef), H⟩ [] [])⟩⟩ := by
  rw [kStep_gT0]; first | rfl | (congr; funext e; rw [opS_not C (fun _ => rfl)])
theorem kf_move (d x ty pos af j K) : @kStep f H ⟨(C, ops, ⟨d, .move x, ty, pos, af, some (j, false)⟩, K)⟩ = @kB _ _ (gd ops j) ⟨fun e => @kU _ (f e) ⟨(K ⟨putF f d (.sc undef), H⟩ [] [], @kB _ _ (opE C.E C.M (fn C) (.move x) d (ev C.E.Γ f) H) ⟨fun q => K ⟨putF f d q.1, H.setAll q.2.2⟩ q.2.1 (q.2.2.map (·.1))⟩, K ⟨putF f d (.sc undef), H⟩ [] [])⟩⟩ := by
  rw [kStep_gF0]; first | rfl | (congr; funext e; rw [opS_not C (fun _ => rfl)])
theorem kn_assign (d x ty pos af K) : @kStep f H ⟨(C, ops, ⟨d, .assign x, ty, pos, af, none⟩, K)⟩ = @kB _ _ (opE C.E C.M (fn C) (.assign x) d (ev C.E.Γ f) H) ⟨fun q => K ⟨putF f d q.1, H.setAll q.2.2⟩ q.2.1 (q.2.2.map (·.1))⟩ := by
  rw [kStep_n0, opS_not C (fun _ => rfl)]; first | done | rfl
theorem kn_pick (d x y z ty pos af K) : @kStep f H ⟨(C, ops, ⟨d, .pick x y z, ty, pos, af, none⟩, K)⟩ = @kB _ _ (opE C.E C.M (fn C) (.pick x y z) d (ev C.E.Γ f) H) ⟨fun q => K ⟨putF f d q.1, H.setAll q.2.2⟩ q.2.1 (q.2.2.map (·.1))⟩ := by
  rw [kStep_n0, opS_not C (fun _ => rfl)]; first | done | rfl
theorem kf_pick (d x y z ty pos af j K) : @kStep f H ⟨(C, ops, ⟨d, .pick x y z, ty, pos, af, some (j, false)⟩, K)⟩ = @kB _ _ (gd ops j) ⟨fun e => @kU _ (f e) ⟨(K ⟨putF f d (.sc undef), H⟩ [] [], @kB _ _ (opE C.E C.M (fn C) (.pick x y z) d (ev C.E.Γ f) H) ⟨fun q => K ⟨putF f d q.1, H.setAll q.2.2⟩ q.2.1 (q.2.2.map (·.1))⟩, K ⟨putF f d (.sc undef), H⟩ [] [])⟩⟩ := by
  rw [kStep_gF0]; first | rfl | (congr; funext e; rw [opS_not C (fun _ => rfl)])
theorem kn_alloc (d t ty pos af K) : @kStep f H ⟨(C, ops, ⟨d, .alloc t, ty, pos, af, none⟩, K)⟩ = @kB _ _ (opE C.E C.M (fn C) (.alloc t) d (ev C.E.Γ f) H) ⟨fun q => K ⟨putF f d q.1, H.setAll q.2.2⟩ q.2.1 (q.2.2.map (·.1))⟩ := by
  rw [kStep_n0, opS_not C (fun _ => rfl)]; first | done | rfl
theorem kn_box (d t x ty pos af K) : @kStep f H ⟨(C, ops, ⟨d, .box t x, ty, pos, af, none⟩, K)⟩ = @kB _ _ (opE C.E C.M (fn C) (.box t x) d (ev C.E.Γ f) H) ⟨fun q => K ⟨putF f d q.1, H.setAll q.2.2⟩ q.2.1 (q.2.2.map (·.1))⟩ := by
  rw [kStep_n0, opS_not C (fun _ => rfl)]; first | done | rfl
theorem kn_build (d t l ty pos af K) : @kStep f H ⟨(C, ops, ⟨d, .build t l, ty, pos, af, none⟩, K)⟩ = @kB _ _ (opE C.E C.M (fn C) (.build t l) d (ev C.E.Γ f) H) ⟨fun q => K ⟨putF f d q.1, H.setAll q.2.2⟩ q.2.1 (q.2.2.map (·.1))⟩ := by
  rw [kStep_n0, opS_not C (fun _ => rfl)]; first | done | rfl
theorem kt_build (d t l ty pos af j K) : @kStep f H ⟨(C, ops, ⟨d, .build t l, ty, pos, af, some (j, true)⟩, K)⟩ = @kB _ _ (gd ops j) ⟨fun e => @kU _ (f e) ⟨(@kB _ _ (opE C.E C.M (fn C) (.build t l) d (ev C.E.Γ f) H) ⟨fun q => K ⟨putF f d q.1, H.setAll q.2.2⟩ q.2.1 (q.2.2.map (·.1))⟩, K ⟨putF f d (.sc undef), H⟩ [] [], K ⟨putF f d (.sc undef), H⟩ [] [])⟩⟩ := by
  rw [kStep_gT0]; first | rfl | (congr; funext e; rw [opS_not C (fun _ => rfl)])
theorem kn_buildSlice (d t n l ty pos af K) : @kStep f H ⟨(C, ops, ⟨d, .buildSlice t n l, ty, pos, af, none⟩, K)⟩ = @kB _ _ (opE C.E C.M (fn C) (.buildSlice t n l) d (ev C.E.Γ f) H) ⟨fun q => K ⟨putF f d q.1, H.setAll q.2.2⟩ q.2.1 (q.2.2.map (·.1))⟩ := by
  rw [kStep_n0, opS_not C (fun _ => rfl)]; first | done | rfl
theorem kn_load (d t x ty pos af K) : @kStep f H ⟨(C, ops, ⟨d, .load t x, ty, pos, af, none⟩, K)⟩ = @kB _ _ (opE C.E C.M (fn C) (.load t x) d (ev C.E.Γ f) H) ⟨fun q => K ⟨putF f d q.1, H.setAll q.2.2⟩ (ldR (nlkD C.M.cur d) (C.E.P.szO t) (ev C.E.Γ f x) q.2.1) (q.2.2.map (·.1))⟩ := by
  rw [kStep_n0, opS_not C (fun _ => rfl)]; first | done | rfl
theorem kt_load (d t x ty pos af j K) : @kStep f H ⟨(C, ops, ⟨d, .load t x, ty, pos, af, some (j, true)⟩, K)⟩ = @kB _ _ (gd ops j) ⟨fun e => @kU _ (f e) ⟨(@kB _ _ (opE C.E C.M (fn C) (.load t x) d (ev C.E.Γ f) H) ⟨fun q => K ⟨putF f d q.1, H.setAll q.2.2⟩ q.2.1 (q.2.2.map (·.1))⟩, K ⟨putF f d (.sc undef), H⟩ [] [], K ⟨putF f d (.sc undef), H⟩ [] [])⟩⟩ := by
  rw [kStep_gT0]; first | rfl | (congr; funext e; rw [opS_not C (fun _ => rfl)])
theorem kf_load (d t x ty pos af j K) : @kStep f H ⟨(C, ops, ⟨d, .load t x, ty, pos, af, some (j, false)⟩, K)⟩ = @kB _ _ (gd ops j) ⟨fun e => @kU _ (f e) ⟨(K ⟨putF f d (.sc undef), H⟩ [] [], @kB _ _ (opE C.E C.M (fn C) (.load t x) d (ev C.E.Γ f) H) ⟨fun q => K ⟨putF f d q.1, H.setAll q.2.2⟩ q.2.1 (q.2.2.map (·.1))⟩, K ⟨putF f d (.sc undef), H⟩ [] [])⟩⟩ := by
  rw [kStep_gF0]; first | rfl | (congr; funext e; rw [opS_not C (fun _ => rfl)])
theorem kn_store (d t x y ty pos af K) : @kStep f H ⟨(C, ops, ⟨d, .store t x y, ty, pos, af, none⟩, K)⟩ = @kB _ _ (opE C.E C.M (fn C) (.store t x y) d (ev C.E.Γ f) H) ⟨fun q => K ⟨putF f d q.1, H.setAll q.2.2⟩ q.2.1 (q.2.2.map (·.1))⟩ := by
  rw [kStep_n0, opS_not C (fun _ => rfl)]; first | done | rfl
theorem kn_nilCheck (d x ty pos af K) : @kStep f H ⟨(C, ops, ⟨d, .nilCheck x, ty, pos, af, none⟩, K)⟩ = @kB _ _ (opE C.E C.M (fn C) (.nilCheck x) d (ev C.E.Γ f) H) ⟨fun q => K ⟨putF f d q.1, H.setAll q.2.2⟩ q.2.1 (q.2.2.map (·.1))⟩ := by
  rw [kStep_n0, opS_not C (fun _ => rfl)]; first | done | rfl
theorem kn_binOp (d o t x y u ty pos af K) : @kStep f H ⟨(C, ops, ⟨d, .binOp o t x y u, ty, pos, af, none⟩, K)⟩ = @kB _ _ (opE C.E C.M (fn C) (.binOp o t x y u) d (ev C.E.Γ f) H) ⟨fun q => K ⟨putF f d q.1, H.setAll q.2.2⟩ q.2.1 (q.2.2.map (·.1))⟩ := by
  rw [kStep_n0, opS_not C (fun _ => rfl)]; first | done | rfl
theorem kt_binOp (d o t x y u ty pos af j K) : @kStep f H ⟨(C, ops, ⟨d, .binOp o t x y u, ty, pos, af, some (j, true)⟩, K)⟩ = @kB _ _ (gd ops j) ⟨fun e => @kU _ (f e) ⟨(@kB _ _ (opE C.E C.M (fn C) (.binOp o t x y u) d (ev C.E.Γ f) H) ⟨fun q => K ⟨putF f d q.1, H.setAll q.2.2⟩ q.2.1 (q.2.2.map (·.1))⟩, K ⟨putF f d (.sc undef), H⟩ [] [], K ⟨putF f d (.sc undef), H⟩ [] [])⟩⟩ := by
  rw [kStep_gT0]; first | rfl | (congr; funext e; rw [opS_not C (fun _ => rfl)])
theorem kf_binOp (d o t x y u ty pos af j K) : @kStep f H ⟨(C, ops, ⟨d, .binOp o t x y u, ty, pos, af, some (j, false)⟩, K)⟩ = @kB _ _ (gd ops j) ⟨fun e => @kU _ (f e) ⟨(K ⟨putF f d (.sc undef), H⟩ [] [], @kB _ _ (opE C.E C.M (fn C) (.binOp o t x y u) d (ev C.E.Γ f) H) ⟨fun q => K ⟨putF f d q.1, H.setAll q.2.2⟩ q.2.1 (q.2.2.map (·.1))⟩, K ⟨putF f d (.sc undef), H⟩ [] [])⟩⟩ := by
  rw [kStep_gF0]; first | rfl | (congr; funext e; rw [opS_not C (fun _ => rfl)])
theorem kn_unOp (d o t x ty pos af K) : @kStep f H ⟨(C, ops, ⟨d, .unOp o t x, ty, pos, af, none⟩, K)⟩ = @kB _ _ (opE C.E C.M (fn C) (.unOp o t x) d (ev C.E.Γ f) H) ⟨fun q => K ⟨putF f d q.1, H.setAll q.2.2⟩ q.2.1 (q.2.2.map (·.1))⟩ := by
  rw [kStep_n0, opS_not C (fun _ => rfl)]; first | done | rfl
theorem kf_unOp (d o t x ty pos af j K) : @kStep f H ⟨(C, ops, ⟨d, .unOp o t x, ty, pos, af, some (j, false)⟩, K)⟩ = @kB _ _ (gd ops j) ⟨fun e => @kU _ (f e) ⟨(K ⟨putF f d (.sc undef), H⟩ [] [], @kB _ _ (opE C.E C.M (fn C) (.unOp o t x) d (ev C.E.Γ f) H) ⟨fun q => K ⟨putF f d q.1, H.setAll q.2.2⟩ q.2.1 (q.2.2.map (·.1))⟩, K ⟨putF f d (.sc undef), H⟩ [] [])⟩⟩ := by
  rw [kStep_gF0]; first | rfl | (congr; funext e; rw [opS_not C (fun _ => rfl)])
theorem kn_s2a (d t x ty pos af K) : @kStep f H ⟨(C, ops, ⟨d, .sliceToArrayPointer t x, ty, pos, af, none⟩, K)⟩ = @kB _ _ (opE C.E C.M (fn C) (.sliceToArrayPointer t x) d (ev C.E.Γ f) H) ⟨fun q => K ⟨putF f d q.1, H.setAll q.2.2⟩ q.2.1 (q.2.2.map (·.1))⟩ := by
  rw [kStep_n0, opS_not C (fun _ => rfl)]; first | done | rfl
theorem kn_convert (d t u x ty pos af K) : @kStep f H ⟨(C, ops, ⟨d, .convert t u x, ty, pos, af, none⟩, K)⟩ = @kB _ _ (opE C.E C.M (fn C) (.convert t u x) d (ev C.E.Γ f) H) ⟨fun q => K ⟨putF f d q.1, H.setAll q.2.2⟩ q.2.1 (q.2.2.map (·.1))⟩ := by
  rw [kStep_n0, opS_not C (fun _ => rfl)]; first | done | rfl
theorem kt_convert (d t u x ty pos af j K) : @kStep f H ⟨(C, ops, ⟨d, .convert t u x, ty, pos, af, some (j, true)⟩, K)⟩ = @kB _ _ (gd ops j) ⟨fun e => @kU _ (f e) ⟨(@kB _ _ (opE C.E C.M (fn C) (.convert t u x) d (ev C.E.Γ f) H) ⟨fun q => K ⟨putF f d q.1, H.setAll q.2.2⟩ q.2.1 (q.2.2.map (·.1))⟩, K ⟨putF f d (.sc undef), H⟩ [] [], K ⟨putF f d (.sc undef), H⟩ [] [])⟩⟩ := by
  rw [kStep_gT0]; first | rfl | (congr; funext e; rw [opS_not C (fun _ => rfl)])
theorem kn_makeSlice (d t x y ty pos af K) : @kStep f H ⟨(C, ops, ⟨d, .makeSlice t x y, ty, pos, af, none⟩, K)⟩ = @kB _ _ (opE C.E C.M (fn C) (.makeSlice t x y) d (ev C.E.Γ f) H) ⟨fun q => K ⟨putF f d q.1, H.setAll q.2.2⟩ q.2.1 (q.2.2.map (·.1))⟩ := by
  rw [kStep_n0, opS_not C (fun _ => rfl)]; first | done | rfl
theorem kn_slice (d t x a b c ty pos af K) : @kStep f H ⟨(C, ops, ⟨d, .slice t x a b c, ty, pos, af, none⟩, K)⟩ = @kB _ _ (opE C.E C.M (fn C) (.slice t x a b c) d (ev C.E.Γ f) H) ⟨fun q => K ⟨putF f d q.1, H.setAll q.2.2⟩ q.2.1 (q.2.2.map (·.1))⟩ := by
  rw [kStep_n0, opS_not C (fun _ => rfl)]; first | done | rfl
theorem kt_slice (d t x a b c ty pos af j K) : @kStep f H ⟨(C, ops, ⟨d, .slice t x a b c, ty, pos, af, some (j, true)⟩, K)⟩ = @kB _ _ (gd ops j) ⟨fun e => @kU _ (f e) ⟨(@kB _ _ (opE C.E C.M (fn C) (.slice t x a b c) d (ev C.E.Γ f) H) ⟨fun q => K ⟨putF f d q.1, H.setAll q.2.2⟩ q.2.1 (q.2.2.map (·.1))⟩, K ⟨putF f d (.sc undef), H⟩ [] [], K ⟨putF f d (.sc undef), H⟩ [] [])⟩⟩ := by
  rw [kStep_gT0]; first | rfl | (congr; funext e; rw [opS_not C (fun _ => rfl)])
theorem kn_fieldAddr (d t x n ty pos af K) : @kStep f H ⟨(C, ops, ⟨d, .fieldAddr t x n, ty, pos, af, none⟩, K)⟩ = @kB _ _ (opE C.E C.M (fn C) (.fieldAddr t x n) d (ev C.E.Γ f) H) ⟨fun q => K ⟨putF f d q.1, H.setAll q.2.2⟩ q.2.1 (q.2.2.map (·.1))⟩ := by
  rw [kStep_n0, opS_not C (fun _ => rfl)]; first | done | rfl
theorem kt_fieldAddr (d t x n ty pos af j K) : @kStep f H ⟨(C, ops, ⟨d, .fieldAddr t x n, ty, pos, af, some (j, true)⟩, K)⟩ = @kB _ _ (gd ops j) ⟨fun e => @kU _ (f e) ⟨(@kB _ _ (opE C.E C.M (fn C) (.fieldAddr t x n) d (ev C.E.Γ f) H) ⟨fun q => K ⟨putF f d q.1, H.setAll q.2.2⟩ q.2.1 (q.2.2.map (·.1))⟩, K ⟨putF f d (.sc undef), H⟩ [] [], K ⟨putF f d (.sc undef), H⟩ [] [])⟩⟩ := by
  rw [kStep_gT0]; first | rfl | (congr; funext e; rw [opS_not C (fun _ => rfl)])
theorem kf_fieldAddr (d t x n ty pos af j K) : @kStep f H ⟨(C, ops, ⟨d, .fieldAddr t x n, ty, pos, af, some (j, false)⟩, K)⟩ = @kB _ _ (gd ops j) ⟨fun e => @kU _ (f e) ⟨(K ⟨putF f d (.sc undef), H⟩ [] [], @kB _ _ (opE C.E C.M (fn C) (.fieldAddr t x n) d (ev C.E.Γ f) H) ⟨fun q => K ⟨putF f d q.1, H.setAll q.2.2⟩ q.2.1 (q.2.2.map (·.1))⟩, K ⟨putF f d (.sc undef), H⟩ [] [])⟩⟩ := by
  rw [kStep_gF0]; first | rfl | (congr; funext e; rw [opS_not C (fun _ => rfl)])
theorem kn_indexAddr (d t x i ty pos af K) : @kStep f H ⟨(C, ops, ⟨d, .indexAddr t x i, ty, pos, af, none⟩, K)⟩ = @kB _ _ (opE C.E C.M (fn C) (.indexAddr t x i) d (ev C.E.Γ f) H) ⟨fun q => K ⟨putF f d q.1, H.setAll q.2.2⟩ q.2.1 (q.2.2.map (·.1))⟩ := by
  rw [kStep_n0, opS_not C (fun _ => rfl)]; first | done | rfl
theorem kt_indexAddr (d t x i ty pos af j K) : @kStep f H ⟨(C, ops, ⟨d, .indexAddr t x i, ty, pos, af, some (j, true)⟩, K)⟩ = @kB _ _ (gd ops j) ⟨fun e => @kU _ (f e) ⟨(@kB _ _ (opE C.E C.M (fn C) (.indexAddr t x i) d (ev C.E.Γ f) H) ⟨fun q => K ⟨putF f d q.1, H.setAll q.2.2⟩ q.2.1 (q.2.2.map (·.1))⟩, K ⟨putF f d (.sc undef), H⟩ [] [], K ⟨putF f d (.sc undef), H⟩ [] [])⟩⟩ := by
  rw [kStep_gT0]; first | rfl | (congr; funext e; rw [opS_not C (fun _ => rfl)])
theorem kn_index (d t x i ty pos af K) : @kStep f H ⟨(C, ops, ⟨d, .index t x i, ty, pos, af, none⟩, K)⟩ = @kB _ _ (opE C.E C.M (fn C) (.index t x i) d (ev C.E.Γ f) H) ⟨fun q => K ⟨putF f d q.1, H.setAll q.2.2⟩ q.2.1 (q.2.2.map (·.1))⟩ := by
  rw [kStep_n0, opS_not C (fun _ => rfl)]; first | done | rfl
theorem kt_index (d t x i ty pos af j K) : @kStep f H ⟨(C, ops, ⟨d, .index t x i, ty, pos, af, some (j, true)⟩, K)⟩ = @kB _ _ (gd ops j) ⟨fun e => @kU _ (f e) ⟨(@kB _ _ (opE C.E C.M (fn C) (.index t x i) d (ev C.E.Γ f) H) ⟨fun q => K ⟨putF f d q.1, H.setAll q.2.2⟩ q.2.1 (q.2.2.map (·.1))⟩, K ⟨putF f d (.sc undef), H⟩ [] [], K ⟨putF f d (.sc undef), H⟩ [] [])⟩⟩ := by
  rw [kStep_gT0]; first | rfl | (congr; funext e; rw [opS_not C (fun _ => rfl)])
theorem kf_index (d t x i ty pos af j K) : @kStep f H ⟨(C, ops, ⟨d, .index t x i, ty, pos, af, some (j, false)⟩, K)⟩ = @kB _ _ (gd ops j) ⟨fun e => @kU _ (f e) ⟨(K ⟨putF f d (.sc undef), H⟩ [] [], @kB _ _ (opE C.E C.M (fn C) (.index t x i) d (ev C.E.Γ f) H) ⟨fun q => K ⟨putF f d q.1, H.setAll q.2.2⟩ q.2.1 (q.2.2.map (·.1))⟩, K ⟨putF f d (.sc undef), H⟩ [] [])⟩⟩ := by
  rw [kStep_gF0]; first | rfl | (congr; funext e; rw [opS_not C (fun _ => rfl)])
theorem kn_extract (d x n ty pos af K) : @kStep f H ⟨(C, ops, ⟨d, .extract x n, ty, pos, af, none⟩, K)⟩ = @kB _ _ (opE C.E C.M (fn C) (.extract x n) d (ev C.E.Γ f) H) ⟨fun q => K ⟨putF f d q.1, H.setAll q.2.2⟩ q.2.1 (q.2.2.map (·.1))⟩ := by
  rw [kStep_n0, opS_not C (fun _ => rfl)]; first | done | rfl
theorem kn_builtin (d b a t ty pos af K) : @kStep f H ⟨(C, ops, ⟨d, .call ⟨.builtin b, a, t⟩, ty, pos, af, none⟩, K)⟩ = @kB _ _ (opE C.E C.M (fn C) (.call ⟨.builtin b, a, t⟩) d (ev C.E.Γ f) H) ⟨fun q => K ⟨putF f d q.1, H.setAll q.2.2⟩ q.2.1 (q.2.2.map (·.1))⟩ := by
  rw [kStep_n0, opS_not C (fun _ => rfl)]; first | done | rfl
theorem kt_builtin (d b a t ty pos af j K) : @kStep f H ⟨(C, ops, ⟨d, .call ⟨.builtin b, a, t⟩, ty, pos, af, some (j, true)⟩, K)⟩ = @kB _ _ (gd ops j) ⟨fun e => @kU _ (f e) ⟨(@kB _ _ (opE C.E C.M (fn C) (.call ⟨.builtin b, a, t⟩) d (ev C.E.Γ f) H) ⟨fun q => K ⟨putF f d q.1, H.setAll q.2.2⟩ q.2.1 (q.2.2.map (·.1))⟩, K ⟨putF f d (.sc undef), H⟩ [] [], K ⟨putF f d (.sc undef), H⟩ [] [])⟩⟩ := by
  rw [kStep_gT0]; first | rfl | (congr; funext e; rw [opS_not C (fun _ => rfl)])
theorem kf_builtin (d b a t ty pos af j K) : @kStep f H ⟨(C, ops, ⟨d, .call ⟨.builtin b, a, t⟩, ty, pos, af, some (j, false)⟩, K)⟩ = @kB _ _ (gd ops j) ⟨fun e => @kU _ (f e) ⟨(K ⟨putF f d (.sc undef), H⟩ [] [], @kB _ _ (opE C.E C.M (fn C) (.call ⟨.builtin b, a, t⟩) d (ev C.E.Γ f) H) ⟨fun q => K ⟨putF f d q.1, H.setAll q.2.2⟩ q.2.1 (q.2.2.map (·.1))⟩, K ⟨putF f d (.sc undef), H⟩ [] [])⟩⟩ := by
  rw [kStep_gF0]; first | rfl | (congr; funext e; rw [opS_not C (fun _ => rfl)])
theorem kn_call (d g args ts ty pos af K) : @kStep f H ⟨(C, ops, ⟨d, .call ⟨.value g, ⟨args⟩, ts⟩, ty, pos, af, none⟩, K)⟩ = @kF _ (ev C.E.Γ f g) ⟨fun h first cap => @kC _ (inlB C.M.inls h) ⟨(@kB _ _ (callE C.E C.M (ghO C.M.gh d (ev C.E.Γ f) (fn C)) h (first ++ args.map (ev C.E.Γ f) ++ cap) (shD C.M.base d) H) ⟨fun q => K ⟨putF f d q.1, H.setAll q.2.2⟩ q.2.1 (q.2.2.map (·.1))⟩, @kG _ (C.E.P.inFn h = true) _ ⟨@kB _ _ (il C h (first ++ args.map (ev C.E.Γ f) ++ cap) H) ⟨fun r => @kC _ (inlB C.M.inls h % 2) ⟨(@kC _ (inlB C.M.inls h % 4) ⟨(K ⟨putF f d r.1, r.2⟩ [ALL] [ALL], @kBt _ (first ++ args.map (ev C.E.Γ f) ++ cap) ⟨fun o c => @kG _ (KeepB H r.2 o c) (Classical.propDecidable _) ⟨K ⟨putF f d r.1, r.2⟩ [ALL] [BUT o c]⟩⟩)⟩, @kG _ (r.2 = H) (Classical.propDecidable _) ⟨K ⟨putF f d r.1, H⟩ [ALL] []⟩)⟩⟩⟩)⟩⟩ := by
  rw [kStep_n0, opS_call]; first | done | rfl
theorem kt_call (d g args ts ty pos af j K) : @kStep f H ⟨(C, ops, ⟨d, .call ⟨.value g, ⟨args⟩, ts⟩, ty, pos, af, some (j, true)⟩, K)⟩ = @kB _ _ (gd ops j) ⟨fun e => @kU _ (f e) ⟨(@kF _ (ev C.E.Γ f g) ⟨fun h first cap => @kC _ (inlB C.M.inls h) ⟨(@kB _ _ (callE C.E C.M (ghO C.M.gh d (ev C.E.Γ f) (fn C)) h (first ++ args.map (ev C.E.Γ f) ++ cap) (shD C.M.base d) H) ⟨fun q => K ⟨putF f d q.1, H.setAll q.2.2⟩ q.2.1 (q.2.2.map (·.1))⟩, @kG _ (C.E.P.inFn h = true) _ ⟨@kB _ _ (il C h (first ++ args.map (ev C.E.Γ f) ++ cap) H) ⟨fun r => @kC _ (inlB C.M.inls h % 2) ⟨(@kC _ (inlB C.M.inls h % 4) ⟨(K ⟨putF f d r.1, r.2⟩ [ALL] [ALL], @kBt _ (first ++ args.map (ev C.E.Γ f) ++ cap) ⟨fun o c => @kG _ (KeepB H r.2 o c) (Classical.propDecidable _) ⟨K ⟨putF f d r.1, r.2⟩ [ALL] [BUT o c]⟩⟩)⟩, @kG _ (r.2 = H) (Classical.propDecidable _) ⟨K ⟨putF f d r.1, H⟩ [ALL] []⟩)⟩⟩⟩)⟩⟩, K ⟨putF f d (.sc undef), H⟩ [] [], K ⟨putF f d (.sc undef), H⟩ [] [])⟩⟩ := by
  rw [kStep_gT0]; congr; funext e; rw [opS_call]
theorem kf_call (d g args ts ty pos af j K) : @kStep f H ⟨(C, ops, ⟨d, .call ⟨.value g, ⟨args⟩, ts⟩, ty, pos, af, some (j, false)⟩, K)⟩ = @kB _ _ (gd ops j) ⟨fun e => @kU _ (f e) ⟨(K ⟨putF f d (.sc undef), H⟩ [] [], @kF _ (ev C.E.Γ f g) ⟨fun h first cap => @kC _ (inlB C.M.inls h) ⟨(@kB _ _ (callE C.E C.M (ghO C.M.gh d (ev C.E.Γ f) (fn C)) h (first ++ args.map (ev C.E.Γ f) ++ cap) (shD C.M.base d) H) ⟨fun q => K ⟨putF f d q.1, H.setAll q.2.2⟩ q.2.1 (q.2.2.map (·.1))⟩, @kG _ (C.E.P.inFn h = true) _ ⟨@kB _ _ (il C h (first ++ args.map (ev C.E.Γ f) ++ cap) H) ⟨fun r => @kC _ (inlB C.M.inls h % 2) ⟨(@kC _ (inlB C.M.inls h % 4) ⟨(K ⟨putF f d r.1, r.2⟩ [ALL] [ALL], @kBt _ (first ++ args.map (ev C.E.Γ f) ++ cap) ⟨fun o c => @kG _ (KeepB H r.2 o c) (Classical.propDecidable _) ⟨K ⟨putF f d r.1, r.2⟩ [ALL] [BUT o c]⟩⟩)⟩, @kG _ (r.2 = H) (Classical.propDecidable _) ⟨K ⟨putF f d r.1, H⟩ [ALL] []⟩)⟩⟩⟩)⟩⟩, K ⟨putF f d (.sc undef), H⟩ [] [])⟩⟩ := by
  rw [kStep_gF0]; congr; funext e; rw [opS_call]
end
theorem if_bind {α β : Type} (p : Prop) [Decidable p] (x : Option α) (K : α → Option β) : (if p then x else none).bind K = if p then x.bind K else none := by split <;> rfl
section
variable {β : Type} (E : Env) (M : Mds) (O : Orc) (d : Option Tmp) (ρ : Operand → AVal) (H : Heap) (K : Out → Option β)
theorem k_move (x) : @kB _ _ (opE E M O (.move x) d ρ H) ⟨K⟩ = K (ρ x, [], []) := rfl
theorem k_assign (x) : @kB _ _ (opE E M O (.assign x) d ρ H) ⟨K⟩ = @kB _ _ (assE M d H (ρ x)) ⟨K⟩ := rfl
theorem k_pick (c a b) : @kB _ _ (opE E M O (.pick c a b) d ρ H) ⟨K⟩ = @kT _ (ρ c) ⟨fun t => K (if t = true then ρ a else ρ b, [], [])⟩ := by
  simp only [opE, kB, kT]; cases ρ c <;> rfl
theorem k_alloc (t) : @kB _ _ (opE E M O (.alloc t) d ρ H) ⟨K⟩ = @kB _ _ (E.P.zeroL t) ⟨fun z => K (.ptr (site (shD M.base d)) ((H (site (shD M.base d))).gen + 1) 0 0, [site (shD M.base d)], [(site (shD M.base d), newObj H (site (shD M.base d)) z.length [z])])⟩ := by
  simp only [opE, kB, kG, gu, if_bind, Option.bind_assoc, Option.bind_some]
theorem k_box (t x) : @kB _ _ (opE E M O (.box t x) d ρ H) ⟨K⟩ = @kG _ ((ρ x).boxable = true) _ ⟨K (.ptr (site (shD M.base d)) ((H (site (shD M.base d))).gen + 1) 0 0, [site (shD M.base d)], [(site (shD M.base d), newObj H (site (shD M.base d)) (ρ x).cellsV.length [(ρ x).cellsV])])⟩ := by
  simp only [opE, kB, kG, gu, if_bind, Option.bind_assoc, Option.bind_some]
theorem k_build (t l) : @kB _ _ (opE E M O (.build t ⟨l⟩) d ρ H) ⟨K⟩ = @kG _ (E.P.isComp t = true) _ ⟨@kB _ _ (E.P.zeroL t) ⟨fun z => @kB _ _ (fillA (E.P.places t) z (l.map fun p => (p.1, ρ p.2))) ⟨fun cs => K (.agg (nilO M.cur d cs), [], [])⟩⟩⟩ := by
  simp only [opE, kB, kG, gu, if_bind, Option.bind_assoc, Option.bind_some]
theorem nilO_none (l cs) : nilO l none cs = cs := Eq.trans rfl rfl
theorem nilO_some (l cs) (e : Tmp) : nilO l (some e) cs = nilD l e cs := Eq.trans rfl rfl
theorem nilD_nil (e cs) : nilD [] e cs = cs := Eq.trans rfl rfl
theorem nilD_cons (p l e cs) : nilD (p :: l) e cs = if p.1 = e then nilD l e (nilAt (p.2 / 100) (p.2 % 100) cs) else nilD l e cs := Eq.trans rfl rfl
theorem nilAt_zero (st v vs) : nilAt 0 st (v :: vs) = nil1 st v :: vs := Eq.trans rfl rfl
theorem nilAt_succ (i st v vs) : nilAt (i + 1) st (v :: vs) = v :: nilAt i st vs := Eq.trans rfl rfl
theorem nil1_nil (st) : nil1 st (.sc (.slice none 0 0)) = .slice st [] := Eq.trans rfl rfl
theorem bsE_zero (o size len rows) : @kB _ _ (bsE 0 H o size len rows) ⟨K⟩ = K (.osl o ((H o).gen + 1) 0 len, [o], [(o, newObj H o size rows)]) := rfl
theorem k_buildSlice (t len l) : @kB _ _ (opE E M O (.buildSlice t len ⟨l⟩) d ρ H) ⟨K⟩ = @kB _ _ (E.P.elemO t) ⟨fun size => @kG _ (0 < size) _ ⟨@kB _ _ (E.P.elemZero t) ⟨fun z => @kG _ (z.length = size) _ ⟨@kG _ (len * size ≤ 16777216) _ ⟨@kB _ _ (fillR size (List.replicate len z) (l.map fun p => (p.1, ρ p.2))) ⟨fun rows =>
    @kB _ _ (bsE (nlkD M.cur d) H (site (shD M.base d)) size len rows) ⟨K⟩⟩⟩⟩⟩⟩⟩ := by
  simp only [opE, kB, kG, gu, if_bind, Option.bind_assoc, Option.bind_some]
theorem k_fillA_nil (p cs) (K : List AVal → Option β) : @kB _ _ (fillA p cs []) ⟨K⟩ = K cs := rfl
theorem k_fillA_cons (p cs i v rest) (K : List AVal → Option β) : @kB _ _ (fillA p cs ((i, v) :: rest)) ⟨K⟩ = @kB _ _ (p i) ⟨fun q => @kG _ (v.boxable = true ∧ v.cellsV.length = q.2 ∧ q.1 + q.2 ≤ cs.length) _ ⟨@kB _ _ (fillA p (putCells cs q.1 v.cellsV) rest) ⟨K⟩⟩⟩ := by
  simp only [fillA, kB, kG, gu, if_bind, Option.bind_assoc, Option.bind_some]
theorem k_fillR_nil (st rs) (K : List (List AVal) → Option β) : @kB _ _ (fillR st rs []) ⟨K⟩ = K rs := rfl
theorem k_fillR_cons (st rs i v rest) (K : List (List AVal) → Option β) : @kB _ _ (fillR st rs ((i, v) :: rest)) ⟨K⟩ = @kG _ (v.boxable = true ∧ v.cellsV.length = st ∧ i < rs.length) _ ⟨@kB _ _ (fillR st (rs.set i v.cellsV) rest) ⟨K⟩⟩ := by
  simp only [fillR, kB, kG, gu, if_bind, Option.bind_assoc, Option.bind_some]
theorem k_load (t x) : @kB _ _ (opE E M O (.load t x) d ρ H) ⟨K⟩ = @kB _ _ (E.P.szO t) ⟨fun n => @kB _ _ (E.P.rowO t) ⟨fun g => @kG _ (g = false → n = 1) _ ⟨@kB _ _ (loadE H g n (ρ x)) ⟨K⟩⟩⟩⟩ := by
  simp only [opE, kB, kG, gu, if_bind, Option.bind_assoc, Option.bind_some]
theorem k_store (t x y) : @kB _ _ (opE E M O (.store t x y) d ρ H) ⟨K⟩ = @kB _ _ (E.P.szO t) ⟨fun n => @kB _ _ (storeE H n (ρ x) (ρ y)) ⟨K⟩⟩ := by
  simp only [opE, kB, kG, gu, if_bind, Option.bind_assoc, Option.bind_some]
theorem k_nilCheck (x) : @kB _ _ (opE E M O (.nilCheck x) d ρ H) ⟨K⟩ = @kG _ (isPtr (ρ x) = true) _ ⟨K (ρ x, [], [])⟩ := by
  simp only [opE, kB, kG, gu, if_bind, Option.bind_assoc, Option.bind_some]
theorem k_binOp (op t x y u) : @kB _ _ (opE E M O (.binOp op t x y u) d ρ H) ⟨K⟩ = @kB _ _ (binV E.P op t (ρ x) (ρ y)) ⟨fun v => K (v, [], [])⟩ := by
  simp only [opE, kB, kG, gu, if_bind, Option.bind_assoc, Option.bind_some]
theorem k_unOp (op t x) : @kB _ _ (opE E M O (.unOp op t x) d ρ H) ⟨K⟩ = @kB _ _ (unV op (ρ x)) ⟨fun v => K (v, [], [])⟩ := by
  simp only [opE, kB, kG, gu, if_bind, Option.bind_assoc, Option.bind_some]
theorem k_s2a (t x) : @kB _ _ (opE E M O (.sliceToArrayPointer t x) d ρ H) ⟨K⟩ = @kB _ _ (s2aE E.P t (ρ x)) ⟨fun v => K (v, [], [])⟩ := by
  simp only [opE, kB, kG, gu, if_bind, Option.bind_assoc, Option.bind_some]
theorem k_convert (a b x) : @kB _ _ (opE E M O (.convert a b x) d ρ H) ⟨K⟩ = @kB _ _ (convE E.P H a b (shD M.base d) (ρ x)) ⟨K⟩ := rfl
theorem k_makeFunc (g fs cs) : @kB _ _ (opE E M O (.makeFunc g ⟨fs⟩ ⟨cs⟩) d ρ H) ⟨K⟩ = K (.fn g (fs.map ρ) (cs.map ρ), [], []) := rfl
theorem k_makeSlice (t l c) : @kB _ _ (opE E M O (.makeSlice t l c) d ρ H) ⟨K⟩ = @kI _ (ρ l) ⟨fun _ nl => @kI _ (ρ c) ⟨fun _ nc => @kG _ (0 ≤ nl) _ ⟨@kG _ (nl ≤ nc) _ ⟨@kB _ _ (E.P.elemO t) ⟨fun size => @kG _ (0 < size) _ ⟨@kB _ _ (E.P.elemBytes t) ⟨fun bytes => @kB _ _ (E.P.elemZero t) ⟨fun z => @kG _ (z.length = size) _ ⟨
    @kG _ ((bytes : Int) * nc ≤ 281474976710656) _ ⟨@kG _ (nc ≤ 9223372036854775807) _ ⟨K (.osl (site (shD M.base d)) ((H (site (shD M.base d))).gen + 1) 0 nl.toNat, [site (shD M.base d)], [(site (shD M.base d), newObjX H (site (shD M.base d)) size (List.replicate nl.toNat z) (decide (nl = nc)))])⟩⟩⟩⟩⟩⟩⟩⟩⟩⟩⟩ := by
  simp only [opE, kI]
  cases ρ l <;> try rfl
  cases ρ c <;> try rfl
  simp only [kB, kG, gu, if_bind, Option.bind_assoc, Option.bind_some]
theorem k_slice3 (t x lo h m) : @kB _ _ (opE E M O (.slice t x lo (some h) (some m)) d ρ H) ⟨K⟩ = @kB _ _ (slice3F (nlkD M.cur d) E.P H t (ρ x) (lo.map ρ) (ρ h) (ρ m)) ⟨K⟩ := rfl
theorem slice3F_zero (P t p lo hi mx) : slice3F 0 P H t p lo hi mx = slice3E P H t p lo hi mx := Eq.trans rfl rfl
theorem slice3F_succ (k P t p lo hi mx) : slice3F (k + 1) P H t p lo hi mx = slice3J P H t p lo hi mx := Eq.trans rfl rfl
theorem appF_zero (P t u e s x) : appF 0 P H t u e s x = appE P H t u e s x := Eq.trans rfl rfl
theorem appF_succ (k P t u e s x) : appF (k + 1) P H t u e s x = appInE P H t u s x := Eq.trans rfl rfl
theorem nlkD_none (l) : nlkD l none = 0 := Eq.trans rfl rfl
theorem nlkD_some (l) (e : Tmp) : nlkD l (some e) = nlk l e := Eq.trans rfl rfl
theorem k_slice (t x lo hi) : @kB _ _ (opE E M O (.slice t x lo hi none) d ρ H) ⟨K⟩ = @kB _ _ (sliceE E.P H t (ρ x) (lo.map ρ) (hi.map ρ)) ⟨K⟩ := rfl
theorem k_fieldAddr (s x f) : @kB _ _ (opE E M O (.fieldAddr s x f) d ρ H) ⟨K⟩ = @kB _ _ (E.P.fldO s f) ⟨fun a => @kB _ _ (fieldE a.1 (ρ x)) ⟨K⟩⟩ := by
  simp only [opE, kB, kG, gu, if_bind, Option.bind_assoc, Option.bind_some]
theorem k_indexAddr (t x i) : @kB _ _ (opE E M O (.indexAddr t x i) d ρ H) ⟨K⟩ = @kI _ (ρ i) ⟨fun _ n => @kG _ (0 ≤ n) _ ⟨@kB _ _ (indexAddrE E.P H t (ρ x) n) ⟨K⟩⟩⟩ := by
  simp only [opE, kI]; cases ρ i <;> first | rfl | exact kB_gu _ _ _
theorem k_index (t x i) : @kB _ _ (opE E M O (.index t x i) d ρ H) ⟨K⟩ = @kI _ (ρ i) ⟨fun _ n => @kG _ (0 ≤ n) _ ⟨@kB _ _ (indexE E.P t (ρ x) n) ⟨K⟩⟩⟩ := by
  simp only [opE, kI]; cases ρ i <;> first | rfl | exact kB_gu _ _ _
theorem k_extract (x i) : @kB _ _ (opE E M O (.extract x i) d ρ H) ⟨K⟩ = @kB _ _ (tupE i (ρ x)) ⟨K⟩ := rfl
theorem k_len (x t ts) : @kB _ _ (opE E M O (.call ⟨.builtin .len, ⟨[x]⟩, ⟨t :: ts⟩⟩) d ρ H) ⟨K⟩ = @kB _ _ (lenE E.P H t (ρ x)) ⟨K⟩ := rfl
theorem k_max (x y t) : @kB _ _ (opE E M O (.call ⟨.builtin .max, ⟨[x, y]⟩, t⟩) d ρ H) ⟨K⟩ = @kI _ (ρ x) ⟨fun k a => @kI _ (ρ y) ⟨fun _ b => K (.int k (if b > a then b else a), [], [])⟩⟩ := by
  simp only [opE, builtinE, kI]; cases ρ x <;> try rfl
  cases ρ y <;> rfl
theorem k_min (x y t) : @kB _ _ (opE E M O (.call ⟨.builtin .min, ⟨[x, y]⟩, t⟩) d ρ H) ⟨K⟩ = @kI _ (ρ x) ⟨fun k a => @kI _ (ρ y) ⟨fun _ b => K (.int k (if b < a then b else a), [], [])⟩⟩ := by
  simp only [opE, builtinE, kI]; cases ρ x <;> try rfl
  cases ρ y <;> rfl
theorem k_append (x y t u) : @kB _ _ (opE E M O (.call ⟨.builtin .append, ⟨[x, y]⟩, ⟨[t, u]⟩⟩) d ρ H) ⟨K⟩ = @kB _ _ (appF (nlkD M.cur d) E.P H t u (shD M.base d) (ρ x) (ρ y)) ⟨K⟩ := rfl
theorem k_clear (x t ts) : @kB _ _ (opE E M O (.call ⟨.builtin .clear, ⟨[x]⟩, ⟨t :: ts⟩⟩) d ρ H) ⟨K⟩ = @kB _ _ (clearE E.P H t (ρ x)) ⟨K⟩ := rfl
theorem k_cap (x t ts) : @kB _ _ (opE E M O (.call ⟨.builtin .cap, ⟨[x]⟩, ⟨t :: ts⟩⟩) d ρ H) ⟨K⟩ = @kB _ _ (capE E.P H t (ρ x)) ⟨K⟩ := rfl
theorem k_copy (x y t u) : @kB _ _ (opE E M O (.call ⟨.builtin .copy, ⟨[x, y]⟩, ⟨[t, u]⟩⟩) d ρ H) ⟨K⟩ = @kB _ _ (copyE E.P H t u (ρ x) (ρ y)) ⟨K⟩ := rfl
end
section
variable {β : Type} (P : Program) (H : Heap) (K : Out → Option β)
theorem loadE_ptr (g n o gn i j) : @kB _ _ (loadE H g n (.ptr o gn i j)) ⟨K⟩ = @kG _ ((H o).gen = gn) _ ⟨@kG _ ((H o).mode ≠ .dead) _ ⟨@kB _ _ ((H o).rows[i]?) ⟨fun r => @kG _ (j + n ≤ r.length) _ ⟨K (mkV g ((r.drop j).take n), [o], [])⟩⟩⟩⟩ := by
  simp only [loadE, kB, kG, gu, if_bind, Option.bind_assoc, Option.bind_some]
theorem loadE_iptr (g n cs) : @kB _ _ (loadE H g n (.iptr cs)) ⟨K⟩ = @kG _ (n ≤ cs.length) _ ⟨K (mkV g (cs.take n), [], [])⟩ := by
  simp only [loadE, kB, kG, gu, if_bind, Option.bind_assoc, Option.bind_some]
theorem storeE_ptr (n v o gn i j) : @kB _ _ (storeE H n (.ptr o gn i j) v) ⟨K⟩ = @kG _ (v.boxable = true) _ ⟨@kG _ (v.cellsV.length = n) _ ⟨@kG _ (v.cellsV.all AVal.one = true) _ ⟨@kG _ ((H o).gen = gn) _ ⟨@kG _ ((H o).mode = .live) _ ⟨@kB _ _ ((H o).rows[i]?) ⟨fun r => @kG _ (j + v.cellsV.length ≤ r.length) _ ⟨
    K (.junk, [o], [(o, { H o with rows := (H o).rows.set i (putCells r j v.cellsV) })])⟩⟩⟩⟩⟩⟩⟩ := by
  simp only [storeE, kB, kG, gu, if_bind, Option.bind_assoc, Option.bind_some]
theorem fieldE_ptr (off o g i j) : @kB _ _ (fieldE off (.ptr o g i j)) ⟨K⟩ = K (.ptr o g i (j + off), [], []) := rfl
theorem fieldE_iptr (off cs) : @kB _ _ (fieldE off (.iptr cs)) ⟨K⟩ = K (.iptr (cs.drop off), [], []) := rfl
theorem indexAddrE_slice (t st es n) : @kB _ _ (indexAddrE P H t (.slice st es) n) ⟨K⟩ = @kG _ (P.elemO t = some st) _ ⟨@kB _ _ (es[n.toNat]?) ⟨fun r => K (.iptr r, [], [])⟩⟩ := by
  simp only [indexAddrE, kB, kG, gu, if_bind, Option.bind_assoc, Option.bind_some]
theorem indexAddrE_osl (t o g i m n) : @kB _ _ (indexAddrE P H t (.osl o g i m) n) ⟨K⟩ = @kG _ ((H o).gen = g) _ ⟨@kG _ ((H o).mode ≠ .dead) _ ⟨@kG _ (P.elemO t = some (H o).st) _ ⟨@kG _ (n.toNat < m) _ ⟨K (.ptr o g (i + n.toNat) 0, [o], [])⟩⟩⟩⟩ := by
  simp only [indexAddrE, kB, kG, gu, if_bind, Option.bind_assoc, Option.bind_some]
theorem indexAddrE_ptr (t o g i j n) : @kB _ _ (indexAddrE P H t (.ptr o g i j) n) ⟨K⟩ = @kB _ _ (P.arrO t) ⟨fun a => @kG _ (n.toNat < a.1) _ ⟨K (.ptr o g i (j + n.toNat * a.2.1), [], [])⟩⟩ := by
  simp only [indexAddrE, kB, kG, gu, if_bind, Option.bind_assoc, Option.bind_some]
theorem indexAddrE_iptr (t cs n) : @kB _ _ (indexAddrE P H t (.iptr cs) n) ⟨K⟩ = @kB _ _ (P.arrO t) ⟨fun a => @kG _ (n.toNat < a.1) _ ⟨K (.iptr (cs.drop (n.toNat * a.2.1)), [], [])⟩⟩ := by
  simp only [indexAddrE, kB, kG, gu, if_bind, Option.bind_assoc, Option.bind_some]
theorem indexE_str (t l n) : @kB _ _ (indexE P t (.str l) n) ⟨K⟩ = @kG _ (P.isStr t = true) _ ⟨@kB _ _ (l[n.toNat]?) ⟨fun b => K (.int .u8 b.toNat, [], [])⟩⟩ := by
  simp only [indexE, kB, kG, gu, if_bind, Option.bind_assoc, Option.bind_some]
theorem indexE_agg (t cs n) : @kB _ _ (indexE P t (.agg cs) n) ⟨K⟩ = @kB _ _ (P.arrO t) ⟨fun a => @kG _ (n.toNat < a.1) _ ⟨@kG _ (n.toNat * a.2.1 + a.2.1 ≤ cs.length) _ ⟨@kG _ (a.2.2 = false → a.2.1 = 1) _ ⟨K (mkV a.2.2 ((cs.drop (n.toNat * a.2.1)).take a.2.1), [], [])⟩⟩⟩⟩ := by
  simp only [indexE, kB, kG, gu, if_bind, Option.bind_assoc, Option.bind_some]
theorem tupE_tup (i vs) : @kB _ _ (tupE i (.tup vs)) ⟨K⟩ = @kB _ _ (vs[i]?) ⟨fun v => K (v, [], [])⟩ := by
  simp only [tupE, kB, kG, gu, if_bind, Option.bind_assoc, Option.bind_some]
theorem sliceE_str (t l lo hi) : @kB _ _ (sliceE P H t (.str l) lo hi) ⟨K⟩ = @kG _ (P.isStr t = true) _ ⟨@kB _ _ (bnd hi l.length l.length) ⟨fun h => @kB _ _ (bnd lo 0 h) ⟨fun b => K (.str ((l.drop b).take (h - b)), [], [])⟩⟩⟩ := by
  simp only [sliceE, kB, kG, gu, if_bind, Option.bind_assoc, Option.bind_some]
theorem sliceE_slice (t st es lo hi) : @kB _ _ (sliceE P H t (.slice st es) lo hi) ⟨K⟩ = @kG _ (P.elemO t = some st) _ ⟨@kB _ _ (bnd hi es.length es.length) ⟨fun h => @kB _ _ (bnd lo 0 h) ⟨fun b => K (.slice st ((es.drop b).take (h - b)), [], [])⟩⟩⟩ := by
  simp only [sliceE, kB, kG, gu, if_bind, Option.bind_assoc, Option.bind_some]
theorem sliceE_osl (t o g i m lo hi) : @kB _ _ (sliceE P H t (.osl o g i m) lo hi) ⟨K⟩ = @kG _ ((H o).gen = g) _ ⟨@kG _ ((H o).mode ≠ .dead) _ ⟨@kG _ (P.elemO t = some (H o).st) _ ⟨@kB _ _ (bnd hi m ((H o).rows.length - i)) ⟨fun h => @kB _ _ (bnd lo 0 h) ⟨fun b => K (.osl o g (i + b) (h - b), [o], [])⟩⟩⟩⟩⟩ := by
  simp only [sliceE, kB, kG, gu, if_bind, Option.bind_assoc, Option.bind_some]
theorem num_int (k n) : (AVal.int k n).num = true := rfl
theorem num_bool (b) : (AVal.bool b).num = true := rfl
theorem num_str (l) : (AVal.str l).num = true := rfl
theorem s2aE_slice (t st es) (K : AVal → Option β) : @kB _ _ (s2aE P t (.slice st es)) ⟨K⟩ = @kB _ _ (P.arrO t) ⟨fun a => @kG _ (a.2.1 = st ∧ 0 < a.1 ∧ a.1 ≤ es.length) _ ⟨K (.iptr es.flatten)⟩⟩ := by
  simp only [s2aE, kB, kG, gu, if_bind, Option.bind_assoc, Option.bind_some]
theorem convE_int (s d dst k n) : @kB _ _ (convE P H s d dst (.int k n)) ⟨K⟩ = @kG _ ((P.underlying s).isSome = true) _ ⟨@kB _ _ (kindO P d) ⟨fun k => K (.int k (k.wrap n), [], [])⟩⟩ := by
  simp only [convE, kB, kG, gu, if_bind, Option.bind_assoc, Option.bind_some]
theorem convE_str (s d dst l) : @kB _ _ (convE P H s d dst (.str l)) ⟨K⟩ = if P.isStr d = true then @kG _ ((P.underlying s).isSome = true) _ ⟨K (.str l, [], [])⟩ else @kG _ (P.isStr s = true) _ ⟨@kG _ (P.isBytes d = true) _ ⟨@kG _ (l.length ≤ 9223372036854775807) _ ⟨K (.osl (site dst) ((H (site dst)).gen + 1) 0 l.length, [site dst], [(site dst, newObj H (site dst) 1 (l.map byteRow))])⟩⟩⟩ := by
  simp only [convE]; split <;> simp only [kB, kG, gu, if_bind, Option.bind_assoc, Option.bind_some]
theorem convE_slice (s d dst st es) : @kB _ _ (convE P H s d dst (.slice st es)) ⟨K⟩ = @kG _ (P.isBytes s = true) _ ⟨@kG _ (P.isStr d = true) _ ⟨@kB _ _ (srcE P H s 1 (.slice st es)) ⟨fun p => @kB _ _ (unbyte p.1) ⟨fun l => K (.str l, p.2, [])⟩⟩⟩⟩ := by
  simp only [convE, kB, kG, gu, if_bind, Option.bind_assoc, Option.bind_some]
theorem convE_osl (s d dst o g i n) : @kB _ _ (convE P H s d dst (.osl o g i n)) ⟨K⟩ = if P.isStr d = true then @kG _ (P.isBytes s = true) _ ⟨@kG _ (P.isStr d = true) _ ⟨@kB _ _ (srcE P H s 1 (.osl o g i n)) ⟨fun p => @kB _ _ (unbyte p.1) ⟨fun l => K (.str l, p.2, [])⟩⟩⟩⟩
    else @kG _ (s = d) _ ⟨@kG _ (P.isBytes s = true) _ ⟨@kG _ (n < 0) _ ⟨@kG _ ((H o).gen = g) _ ⟨@kG _ ((H o).mode = .live) _ ⟨K (.osl o g i n, [o], [(o, H o)])⟩⟩⟩⟩⟩ := by
  simp only [convE]; split <;> simp only [kB, kG, gu, if_bind, Option.bind_assoc, Option.bind_some]
theorem lenE_str (t l) : @kB _ _ (lenE P H t (.str l)) ⟨K⟩ = @kG _ (P.isStr t = true) _ ⟨K (.int .i64 (l.length : Int), [], [])⟩ := by simp only [lenE, kB, kG, gu, if_bind, Option.bind_assoc, Option.bind_some]
theorem lenE_slice (t st es) : @kB _ _ (lenE P H t (.slice st es)) ⟨K⟩ = @kG _ ((P.elemO t).isSome = true) _ ⟨K (.int .i64 (es.length : Int), [], [])⟩ := by simp only [lenE, kB, kG, gu, if_bind, Option.bind_assoc, Option.bind_some]
theorem lenE_osl (t o g i n) : @kB _ _ (lenE P H t (.osl o g i n)) ⟨K⟩ = @kG _ ((P.elemO t).isSome = true) _ ⟨@kG _ ((H o).gen = g) _ ⟨@kG _ ((H o).mode ≠ .dead) _ ⟨K (.int .i64 (n : Int), [o], [])⟩⟩⟩ := by simp only [lenE, kB, kG, gu, if_bind, Option.bind_assoc, Option.bind_some]
variable (K' : List (List AVal) × List Nat → Option β)
theorem srcE_slice (t size st es) : @kB _ _ (srcE P H t size (.slice st es)) ⟨K'⟩ = @kG _ (st = size ∨ es = []) _ ⟨K' (es, [])⟩ := by simp only [srcE, kB, kG, gu, if_bind, Option.bind_assoc, Option.bind_some]
theorem srcE_osl (t size o g i n) : @kB _ _ (srcE P H t size (.osl o g i n)) ⟨K'⟩ = @kG _ ((H o).gen = g) _ ⟨@kG _ ((H o).mode ≠ .dead) _ ⟨@kG _ ((H o).st = size) _ ⟨@kG _ (i + n ≤ (H o).rows.length) _ ⟨K' (((H o).rows.drop i).take n, [o])⟩⟩⟩⟩ := by simp only [srcE, kB, kG, gu, if_bind, Option.bind_assoc, Option.bind_some]
theorem srcE_nil (t size) : @kB _ _ (srcE P H t size (.sc (.slice none 0 0))) ⟨K'⟩ = K' ([], []) := rfl
theorem srcE_nilx (t size a c) : @kB _ _ (srcE P H t size (.sc (.slice (some a) 0 c))) ⟨K'⟩ = K' ([], []) := rfl
theorem appE_int (t u d s k n) : @kB _ _ (appE P H t u d s (.int k n)) ⟨K⟩ = @kB _ _ (zerosE P H t u d s n) ⟨K⟩ := rfl
theorem appE_slice (t u d s st es) : @kB _ _ (appE P H t u d s (.slice st es)) ⟨K⟩ = @kB _ _ (appendE P H t u d s (.slice st es)) ⟨K⟩ := rfl
theorem appE_osl (t u d s o g i n) : @kB _ _ (appE P H t u d s (.osl o g i n)) ⟨K⟩ = @kB _ _ (appendE P H t u d s (.osl o g i n)) ⟨K⟩ := rfl
theorem appE_str (t u d s l) : @kB _ _ (appE P H t u d s (.str l)) ⟨K⟩ = @kB _ _ (appendE P H t u d s (.str l)) ⟨K⟩ := rfl
theorem appE_sc (t u d s v) : @kB _ _ (appE P H t u d s (.sc v)) ⟨K⟩ = @kB _ _ (appendE P H t u d s (.sc v)) ⟨K⟩ := rfl
theorem appendE_nil (t u d x) : @kB _ _ (appendE P H t u d (.sc (.slice none 0 0)) x) ⟨K⟩ = @kB _ _ (P.elemO t) ⟨fun size => @kB _ _ (P.elemBytes t) ⟨fun bytes => @kB _ _ (P.elemZero t) ⟨fun z => @kG _ (z.length = size) _ ⟨@kG _ (P.isInt u = false) _ ⟨@kG _ ((P.underlying u).isSome = true) _ ⟨
  @kB _ _ (srcE P H u size x) ⟨fun p => @kG _ (ones p.1 = true) _ ⟨@kG _ (p.1.length * bytes ≤ 140737488355328) _ ⟨@kG _ (p.1.length ≤ 9223372036854775807) _ ⟨K (.osl (site d) ((H (site d)).gen + 1) 0 p.1.length, site d :: p.2, [(site d, newObj H (site d) size p.1)])⟩⟩⟩⟩⟩⟩⟩⟩⟩⟩ := by
  simp only [appendE, kB, kG, gu, if_bind, Option.bind_assoc, Option.bind_some]
theorem appendE_osl (t u d o g i n x) : @kB _ _ (appendE P H t u d (.osl o g i n) x) ⟨K⟩ = @kB _ _ (P.elemO t) ⟨fun size => @kB _ _ (P.elemBytes t) ⟨fun bytes => @kB _ _ (P.elemZero t) ⟨fun z => @kG _ (z.length = size) _ ⟨@kG _ (P.isInt u = false) _ ⟨@kG _ ((P.underlying u).isSome = true) _ ⟨
  @kB _ _ (srcE P H u size x) ⟨fun p => @kG _ (ones p.1 = true) _ ⟨@kG _ ((H o).gen = g) _ ⟨@kG _ ((H o).mode = .live) _ ⟨@kG _ ((H o).st = size) _ ⟨@kG _ (i + n ≤ (H o).rows.length) _ ⟨@kG _ ((n + p.1.length) * bytes ≤ 140737488355328) _ ⟨@kG _ (n + p.1.length ≤ 9223372036854775807) _ ⟨
      K (.osl o (g + 1) 0 (n + p.1.length), o :: p.2, [(o, ⟨g + 1, .live, size, ((H o).rows.drop i).take n ++ p.1, false⟩)])⟩⟩⟩⟩⟩⟩⟩⟩⟩⟩⟩⟩⟩⟩ := by
  simp only [appendE, kB, kG, gu, if_bind, Option.bind_assoc, Option.bind_some]
theorem ite_bind2 {α β : Type} (p : Prop) [Decidable p] (a b : Option α) (f : α → Option β) : (if p then a else b).bind f = if p then a.bind f else b.bind f := by split <;> rfl
theorem zerosE_osl (t u d o g i n k) : @kB _ _ (zerosE P H t u d (.osl o g i n) k) ⟨K⟩ = @kG _ (P.isInt u = true) _ ⟨@kB _ _ (P.elemO t) ⟨fun size => @kG _ (0 < size) _ ⟨@kB _ _ (P.elemBytes t) ⟨fun bytes => @kB _ _ (P.elemZero t) ⟨fun z => @kG _ (z.length = size) _ ⟨@kG _ (0 ≤ k) _ ⟨
      @kG _ ((H o).gen = g) _ ⟨@kG _ ((H o).mode ≠ .dead) _ ⟨@kG _ ((H o).st = size) _ ⟨@kG _ (i + n ≤ (H o).rows.length) _ ⟨@kG _ ((n + k.toNat) * bytes ≤ 140737488355328) _ ⟨@kG _ (n + k.toNat ≤ 9223372036854775807) _ ⟨
      if (H o).exact = true ∧ (H o).rows.length < i + n + k.toNat then K (.osl (site d) ((H (site d)).gen + 1) 0 (n + k.toNat), [site d, o], [(site d, newObj H (site d) size (((H o).rows.drop i).take n ++ List.replicate k.toNat z))])
      else @kG _ ((H o).mode = .live) _ ⟨@kG _ (ones (List.replicate k.toNat z) = true) _ ⟨K (.osl o (g + 1) 0 (n + k.toNat), [o], [(o, ⟨g + 1, .live, size, ((H o).rows.drop i).take n ++ List.replicate k.toNat z, false⟩)])⟩⟩⟩⟩⟩⟩⟩⟩⟩⟩⟩⟩⟩⟩⟩ := by
  simp only [zerosE, kB, kG, gu, if_bind, ite_bind2, Option.bind_assoc, Option.bind_some, Option.bind_none]
end
section
variable {β : Type} (E : Env) (M : Mds) (O : Orc) (H : Heap)
theorem k_callE (f vals d) (K : Out → Option β) : @kB _ _ (callE E M O f vals d H) ⟨K⟩ = @kG _ (E.P.goFn f = true) _ ⟨@kB _ _ (packs H (M.par f) (E.P.parK f) vals) ⟨fun p => @kG _ (nodupB p.2.1 = true) _ ⟨@kG _ (noneIn p.2.1 p.2.2 = true) _ ⟨
    @kB _ _ (O f (exOf H (M.par f) 0 vals p.1) p.1) ⟨fun q => @kG _ (lentOkE H (lents vals p.1) q.2 = true) _ ⟨@kB _ _ (backE H p.2.1 p.2.2 (lents vals p.1) d q.1 q.2 (if q.1.flat && flats q.2 then [] else p.2.2)) ⟨K⟩⟩⟩⟩⟩⟩⟩ := by
  simp only [callE, kB, kG, gu, if_bind, Option.bind_assoc, Option.bind_some]
theorem k_packs_nil (ms kss) (K : _ → Option β) : @kB _ _ (packs H ms kss []) ⟨K⟩ = K ([], [], []) := rfl
theorem k_packs_cons (ms kss v vs) (K : _ → Option β) : @kB _ _ (packs H ms kss (v :: vs)) ⟨K⟩ = @kB _ _ (pack1 H (ms.headD 0) (kss.headD []) v) ⟨fun p => @kB _ _ (packs H ms.tail kss.tail vs) ⟨fun q => K (p.1 :: q.1, p.2.1 ++ q.2.1, p.2.2 ++ q.2.2)⟩⟩ := by
  simp only [packs, kB, kG, gu, if_bind, Option.bind_assoc, Option.bind_some]
theorem k_pack1 (m ks v) (K : Pko → Option β) : @kB _ _ (pack1 H m ks v) ⟨K⟩ = if m = 0 then @kB _ _ (pkE H 4 v) ⟨fun p => K (fixV false ks p.1, [], p.2)⟩ else @kB _ _ (pkO H 4 v) ⟨fun p => K (fixV true ks p.1, p.2)⟩ := by
  simp only [pack1]; split <;> simp only [kB, kG, gu, if_bind, Option.bind_assoc, Option.bind_some]
theorem k_pkE_plain (n v) (h : v.plain = true) (K : _ → Option β) : @kB _ _ (pkE H n v) ⟨K⟩ = K (v, []) := by
  cases n with
  | zero => cases v <;> simp [AVal.plain] at h <;> simp [pkE, AVal.clo, AVal.plain, gu, kB]
  | succ n => cases v <;> simp [AVal.plain] at h <;> simp [pkE, AVal.plain, gu, kB]
theorem k_pkE_bool (n b) (K : _ → Option β) : @kB _ _ (pkE H n (.bool b)) ⟨K⟩ = K (.bool b, []) := k_pkE_plain H n _ rfl K
theorem k_pkE_int (n k i) (K : _ → Option β) : @kB _ _ (pkE H n (.int k i)) ⟨K⟩ = K (.int k i, []) := k_pkE_plain H n _ rfl K
theorem k_pkE_str (n l) (K : _ → Option β) : @kB _ _ (pkE H n (.str l)) ⟨K⟩ = K (.str l, []) := k_pkE_plain H n _ rfl K
theorem k_pkE_sc (n v) (K : _ → Option β) : @kB _ _ (pkE H n (.sc v)) ⟨K⟩ = K (.sc v, []) := k_pkE_plain H n _ rfl K
theorem k_pkE_slice (n st es) (K : _ → Option β) : @kB _ _ (pkE H n (.slice st es)) ⟨K⟩ = K (.slice st es, []) := k_pkE_plain H n _ rfl K
theorem k_pkE_agg (n cs) (K : _ → Option β) : @kB _ _ (pkE H (n + 1) (.agg cs)) ⟨K⟩ = @kB _ _ (pkL (pkE H n) cs) ⟨fun p => K (.agg p.1, p.2)⟩ := by simp only [pkE, kB, kG, gu, if_bind, Option.bind_assoc, Option.bind_some]
theorem k_pkE_fn (n f fs cs) (K : _ → Option β) : @kB _ _ (pkE H (n + 1) (.fn f fs cs)) ⟨K⟩ = @kB _ _ (pkL (pkE H n) fs) ⟨fun p => @kB _ _ (pkL (pkE H n) cs) ⟨fun q => K (.fn f p.1 q.1, p.2 ++ q.2)⟩⟩ := by simp only [pkE, kB, kG, gu, if_bind, Option.bind_assoc, Option.bind_some]
theorem k_pkE_osl (n o g i m) (K : _ → Option β) : @kB _ _ (pkE H (n + 1) (.osl o g i m)) ⟨K⟩ = @kG _ ((H o).gen = g) _ ⟨@kG _ ((H o).mode ≠ .dead) _ ⟨@kG _ (i + m ≤ (H o).rows.length) _ ⟨@kB _ _ (pkRows (pkE H n) (((H o).rows.drop i).take m)) ⟨fun p => K (.slice (H o).st p.1, o :: p.2)⟩⟩⟩⟩ := by
  simp only [pkE, kB, kG, gu, if_bind, Option.bind_assoc, Option.bind_some]
theorem k_pkE_ptr (n o g i j) (K : _ → Option β) : @kB _ _ (pkE H (n + 1) (.ptr o g i j)) ⟨K⟩ = @kG _ ((H o).gen = g) _ ⟨@kG _ ((H o).mode ≠ .dead) _ ⟨@kB _ _ ((H o).rows[i]?) ⟨fun r => @kB _ _ (pkL (pkE H n) (mapJ (r.drop j))) ⟨fun p => K (.iptr p.1, o :: p.2)⟩⟩⟩⟩ := by
  simp only [pkE, kB, kG, gu, if_bind, Option.bind_assoc, Option.bind_some]
theorem k_pkL_nil (f) (K : _ → Option β) : @kB _ _ (pkL f []) ⟨K⟩ = K ([], []) := rfl
theorem k_pkL_cons (f v vs) (K : _ → Option β) : @kB _ _ (pkL f (v :: vs)) ⟨K⟩ = @kB _ _ (f v) ⟨fun p => @kB _ _ (pkL f vs) ⟨fun q => K (p.1 :: q.1, p.2 ++ q.2)⟩⟩ := by simp only [pkL, kB, kG, gu, if_bind, Option.bind_assoc, Option.bind_some]
theorem k_pkRows (f rs) (K : _ → Option β) : @kB _ _ (pkRows f rs) ⟨K⟩ = if rs.all clos = true then K (rs, []) else @kB _ _ (pkLL f rs) ⟨K⟩ := by simp only [pkRows]; split <;> rfl
theorem k_pkLL_nil (f) (K : _ → Option β) : @kB _ _ (pkLL f []) ⟨K⟩ = K ([], []) := rfl
theorem k_pkO_plain (n v) (h : v.plain = true) (K : _ → Option β) : @kB _ _ (pkO H n v) ⟨K⟩ = K (v, [], []) := by
  cases n with
  | zero => cases v <;> simp [AVal.plain] at h <;> simp [pkO, AVal.clo, AVal.plain, gu, kB]
  | succ n => cases v <;> simp [AVal.plain] at h <;> simp [pkO, pkE, AVal.plain, gu, kB]
theorem k_pkO_int (n k i) (K : _ → Option β) : @kB _ _ (pkO H n (.int k i)) ⟨K⟩ = K (.int k i, [], []) := k_pkO_plain H n _ rfl K
theorem k_pkO_str (n l) (K : _ → Option β) : @kB _ _ (pkO H n (.str l)) ⟨K⟩ = K (.str l, [], []) := k_pkO_plain H n _ rfl K
theorem k_pkO_sc (n v) (K : _ → Option β) : @kB _ _ (pkO H n (.sc v)) ⟨K⟩ = K (.sc v, [], []) := k_pkO_plain H n _ rfl K
theorem k_pkO_slice (n st es) (K : _ → Option β) : @kB _ _ (pkO H n (.slice st es)) ⟨K⟩ = K (.slice st es, [], []) := k_pkO_plain H n _ rfl K
theorem k_pkO_osl (n o g i m) (K : _ → Option β) : @kB _ _ (pkO H (n + 1) (.osl o g i m)) ⟨K⟩ = if (H o).mode = .live ∧ i = 0 ∧ m ≤ (H o).rows.length then @kG _ ((H o).gen = g) _ ⟨@kB _ _ (pkRows (pkE H n) ((H o).rows.take m)) ⟨fun p => K (.usl (H o).st p.1, [o], p.2)⟩⟩
    else @kB _ _ (pkE H (n + 1) (.osl o g i m)) ⟨fun p => K (p.1, [], p.2)⟩ := by
  simp only [pkO]; split <;> simp only [kB, kG, gu, if_bind, Option.bind_assoc, Option.bind_some]
theorem k_pkO_ptr (n o g i j) (K : _ → Option β) : @kB _ _ (pkO H (n + 1) (.ptr o g i j)) ⟨K⟩ = @kG _ ((H o).gen = g) _ ⟨@kG _ ((H o).mode = .live) _ ⟨@kG _ (i = 0 ∧ j = 0) _ ⟨@kB _ _ (pkOne (pkOL (pkO H n)) o (H o).rows) ⟨K⟩⟩⟩⟩ := by
  simp only [pkO, kB, kG, gu, if_bind, Option.bind_assoc, Option.bind_some]
theorem k_pkOne (f o r) (K : Pko → Option β) : @kB _ _ (pkOne f o [r]) ⟨K⟩ = @kB _ _ (f r) ⟨fun p => K (.uptr p.1, o :: p.2.1, p.2.2)⟩ := by simp only [pkOne, kB, kG, gu, if_bind, Option.bind_assoc, Option.bind_some]
theorem k_pkOL_nil (f) (K : _ → Option β) : @kB _ _ (pkOL f []) ⟨K⟩ = K ([], [], []) := rfl
theorem k_pkOL_cons (f v vs) (K : _ → Option β) : @kB _ _ (pkOL f (v :: vs)) ⟨K⟩ = @kB _ _ (f v) ⟨fun p => @kB _ _ (pkOL f vs) ⟨fun q => K (p.1 :: q.1, p.2.1 ++ q.2.1, p.2.2 ++ q.2.2)⟩⟩ := by simp only [pkOL, kB, kG, gu, if_bind, Option.bind_assoc, Option.bind_some]
theorem k_backE (u b lent d r ls bz) (K : Out → Option β) : @kB _ _ (backE H u b lent d r ls bz) ⟨K⟩ =
  @kG _ (nodupB ((opnU (callH H u lent bz) (site d) r ++ lentUp (callH H u lent bz) lent ls).map (·.1)) = true) _ ⟨
  K (opnV (callH H u lent bz) (site d) r,
      u ++ b ++ (callUp H u lent bz ++ (opnU (callH H u lent bz) (site d) r ++ lentUp (callH H u lent bz) lent ls)).map (·.1),
      callUp H u lent bz ++ (opnU (callH H u lent bz) (site d) r ++ lentUp (callH H u lent bz) lent ls))⟩ := by
  simp only [backE, kB, kG, gu, if_bind, Option.bind_assoc, Option.bind_some]
end
theorem callH_eq (H : Heap) (u os bz : List Nat) : callH H u os bz = H.setAll (callUp H u os bz) := rfl
def mkU (H : Heap) (u lent : List Nat) : List Nat → List (Nat × Obj)
  | [] => []
  | o :: os => (o, callObj H u lent o) :: mkU H u lent os
theorem mkU_nil (H : Heap) (u lent) : mkU H u lent [] = [] := rfl
theorem mkU_cons (H : Heap) (u lent o os) : mkU H u lent (o :: os) = (o, callObj H u lent o) :: mkU H u lent os := rfl
theorem callUp_eq (H : Heap) (u os bz : List Nat) : callUp H u os bz = mkU H u os (u ++ bz) := by
  unfold callUp
  induction (u ++ bz) with
  | nil => rfl
  | cons o l ih => rw [List.map_cons, ih, mkU_cons]
theorem callObj_eq (H : Heap) (u lent : List Nat) (o : Nat) : callObj H u lent o = if o ∈ lent then { H o with rows := [List.replicate (H o).st .junk] }
  else if o ∈ u then ⟨(H o).gen + 1, .dead, (H o).st, [], false⟩
  else { H o with mode := if (H o).mode = .live then .froz else (H o).mode } := rfl
theorem lentUp_nil (H : Heap) (ls) : lentUp H [] ls = [] := by simp [lentUp]
theorem lentUp_cons (H : Heap) (o os cs ls) : lentUp H (o :: os) (.uptr cs :: ls) = opnUs H o 0 cs ++ ((o, { H o with rows := [opnVs H o 0 cs], exact := false }) :: lentUp H os ls) := rfl
section
variable (vs ds : List AVal)
theorem lentsE_nil : lents [] ds = [] := by cases ds <;> rfl
theorem lentsE_ptr (o g i j cs) : lents (.ptr o g i j :: vs) (.uptr cs :: ds) = o :: lents vs ds := rfl
theorem lentsE_ptri (o g i j cs) : lents (.ptr o g i j :: vs) (.iptr cs :: ds) = lents vs ds := rfl
theorem lentsE_int (k n d) : lents (.int k n :: vs) (d :: ds) = lents vs ds := rfl
theorem lentsE_bool (b d) : lents (.bool b :: vs) (d :: ds) = lents vs ds := rfl
theorem lentsE_str (b d) : lents (.str b :: vs) (d :: ds) = lents vs ds := rfl
theorem lentsE_sc (b d) : lents (.sc b :: vs) (d :: ds) = lents vs ds := rfl
theorem lentsE_agg (b d) : lents (.agg b :: vs) (d :: ds) = lents vs ds := rfl
theorem lentsE_fn (f a b d) : lents (.fn f a b :: vs) (d :: ds) = lents vs ds := rfl
theorem lentsE_slice (st es d) : lents (.slice st es :: vs) (d :: ds) = lents vs ds := rfl
theorem lentsE_osl (o g i n d) : lents (.osl o g i n :: vs) (d :: ds) = lents vs ds := rfl
theorem lentsE_iptr (cs d) : lents (.iptr cs :: vs) (d :: ds) = lents vs ds := rfl
variable (H : Heap) (k : Nat)
theorem exOf_nil (ms) : exOf H ms k [] ds = [] := by cases ds <;> rfl
theorem exOf_osl (ms o g i n st es) : exOf H ms k (.osl o g i n :: vs) (.usl st es :: ds) = if (H o).exact = true ∧ n = (H o).rows.length then k :: exOf H ms.tail (k + 1) vs ds else exOf H ms.tail (k + 1) vs ds := rfl
theorem exOf_osls (ms o g i n st es) : exOf H ms k (.osl o g i n :: vs) (.slice st es :: ds) = exOf H ms.tail (k + 1) vs ds := rfl
theorem exOf_ptr (ms o g i j d) : exOf H ms k (.ptr o g i j :: vs) (d :: ds) = exOf H ms.tail (k + 1) vs ds := by simp [exOf]
theorem exOf_int (ms a n d) : exOf H ms k (.int a n :: vs) (d :: ds) = exOf H ms.tail (k + 1) vs ds := by simp [exOf]
theorem exOf_str (ms b d) : exOf H ms k (.str b :: vs) (d :: ds) = exOf H ms.tail (k + 1) vs ds := by simp [exOf]
theorem exOf_scs (ms b st es) : exOf H ms k (.sc b :: vs) (.slice st es :: ds) = exOf H ms.tail (k + 1) vs ds := by simp [exOf]
theorem exOf_scc (ms b c) : exOf H ms k (.sc b :: vs) (.sc c :: ds) = exOf H ms.tail (k + 1) vs ds := by simp [exOf]
theorem isNilS_nil : isNilS (.sc (.slice none 0 0)) = true := rfl
theorem exOf_agg (ms b d) : exOf H ms k (.agg b :: vs) (d :: ds) = exOf H ms.tail (k + 1) vs ds := by simp [exOf]
theorem exOf_fn (ms f a b d) : exOf H ms k (.fn f a b :: vs) (d :: ds) = exOf H ms.tail (k + 1) vs ds := by simp [exOf]
theorem exOf_slice (ms st es d) : exOf H ms k (.slice st es :: vs) (d :: ds) = exOf H ms.tail (k + 1) vs ds := by simp [exOf]
theorem lentOk_nil : lentOkE H [] [] = true := rfl
theorem lentOk_cons (o os cs ls) : lentOkE H (o :: os) (.uptr cs :: ls) = (decide (cs.length = (H o).st) && lentOkE H os ls) := rfl
end
theorem nodupB_nil : nodupB [] = true := rfl
theorem nodupB_one (x) : nodupB [x] = true := by simp [nodupB]
theorem nodupB_cons (x y : Nat) (xs) : nodupB (x :: y :: xs) = (!(y :: xs).contains x && nodupB (y :: xs)) := rfl
theorem noneIn_nil (b) : noneIn [] b = true := rfl
theorem noneIn_no (u) : noneIn u [] = true := by simp [noneIn]
section
variable (own : Bool) (ks : List Nat)
theorem fixV_int (k n) : fixV own ks (.int k n) = .int k n := by simp [fixV, fix1]
theorem fixV_bool (b) : fixV own ks (.bool b) = .bool b := by simp [fixV, fix1]
theorem fixV_str (l) : fixV own ks (.str l) = .str l := by simp [fixV, fix1]
theorem fixV_slice (st es) : fixV own ks (.slice st es) = .slice st es := by simp [fixV, fix1]
theorem fixV_usl (st es) : fixV own ks (.usl st es) = .usl st es := by simp [fixV, fix1]
theorem fixV_uptr (cs) : fixV own ks (.uptr cs) = .uptr cs := by simp [fixV, fix1]
theorem fixV_iptr (cs) : fixV own ks (.iptr cs) = .iptr cs := by simp [fixV, fix1]
theorem fixV_fn (f a c) : fixV own ks (.fn f a c) = .fn f a c := by simp [fixV, fix1]
theorem fixV_nilp : fixV own ks (.sc (.pointer none)) = .sc (.pointer none) := by simp [fixV, fix1]
theorem fixV_nil (k ks) : fixV own ((k + 1) :: ks) (.sc (.slice none 0 0)) = if own = true then .usl k [] else .slice k [] := rfl
theorem fixV_agg (cs) : fixV own ks (.agg cs) = .agg (fixC own ks cs) := rfl
theorem fixC_none : fixC own ks [] = [] := by cases ks <;> rfl
theorem fixC_cons (k v vs) : fixC own (k :: ks) (v :: vs) = fix1 own k v :: fixC own ks vs := rfl
variable (k : Nat)
theorem fix1_zero (v) : fix1 own 0 v = v := by unfold fix1; split <;> first | contradiction | rfl
theorem fix1_slice (st es) : fix1 own k (.slice st es) = .slice st es := by simp [fix1]
theorem fix1_nil : fix1 own (k + 1) (.sc (.slice none 0 0)) = if own = true then .usl k [] else .slice k [] := rfl
end
def kRet (f : Nat → AVal) (H : Heap) [K : Hold (Cf × List ResultVar × List Nat × List (List Nat) × List AVal)] : Option Res := retE K.val.1.E K.val.2.1 K.val.2.2.1 K.val.2.2.2.1 K.val.2.2.2.2 f H
def qE (C : Cf) (rvs : List ResultVar) (ms : List Nat) (kss : List (List Nat)) (ds : List AVal) : Exit → St → Option Res := fun e s => if isEnd e = true then retE C.E rvs ms kss ds s.fr s.H else none
section
variable (C : Cf) (rvs : List ResultVar) (ms : List Nat) (kss : List (List Nat)) (ds : List AVal) (f : Nat → AVal) (H : Heap)
theorem qE_n : qE C rvs ms kss ds .normal ⟨f, H⟩ = @kRet f H ⟨(C, rvs, ms, kss, ds)⟩ := rfl
theorem qE_r : qE C rvs ms kss ds .ret ⟨f, H⟩ = @kRet f H ⟨(C, rvs, ms, kss, ds)⟩ := rfl
def kRv (f : Nat → AVal) (H : Heap) (rvs : List ResultVar) [K : Hold (Cf × List AVal × (List AVal → Option Res))] : Option Res := (rvsE K.val.1.E f H rvs).bind fun vs => K.val.2.2 (K.val.2.1 ++ vs)
theorem kRet_eq : @kRet f H ⟨(C, rvs, ms, kss, ds)⟩ = @kRv f H rvs ⟨(C, [], fun vs => @kB _ _ (packR H ms kss vs) ⟨fun p => @kB _ _ (packL H (lentPs 0 ds)) ⟨fun q =>
    @kG _ (nodupB (p.2.1 ++ q.2.1) = true) _ ⟨@kG _ (noneIn (p.2.1 ++ q.2.1) (p.2.2 ++ q.2.2) = true) _ ⟨some (p.1, q.1)⟩⟩⟩⟩)⟩ := by
  simp only [kRet, retE, kRv, kB, kG, gu, List.nil_append]
theorem kRv_nil (acc Q) : @kRv f H [] ⟨(C, acc, Q)⟩ = Q acc := by simp [kRv, rvsE]
theorem kRv_tmp (t rest acc Q) : @kRv f H (.tmp t :: rest) ⟨(C, acc, Q)⟩ = @kRv f H rest ⟨(C, acc ++ [f t], Q)⟩ := by
  simp [kRv, rvsE, rvE, Option.bind_assoc]
theorem kRv_cell (x t rest acc Q) : @kRv f H (.cell x t :: rest) ⟨(C, acc, Q)⟩ = @kB _ _ (C.E.P.szO t) ⟨fun n => @kB _ _ (C.E.P.rowO t) ⟨fun g => @kG _ (g = false → n = 1) _ ⟨@kB _ _ (loadE H g n (f x)) ⟨fun q => @kRv f H rest ⟨(C, acc ++ [q.1], Q)⟩⟩⟩⟩⟩ := by
  simp only [kRv, rvsE, rvE, cellE, kB, kG, gu, Option.bind_assoc]
  congr 1; funext n; congr 1; funext g
  split
  · simp only [Option.bind_assoc, Option.bind_some, List.append_assoc, List.cons_append, List.nil_append]
  · rfl
end
section
variable {β : Type} (H : Heap)
theorem k_packR1 (ms kss v) (K : Pko → Option β) : @kB _ _ (packR H ms kss [v]) ⟨K⟩ = @kB _ _ (pack1 H (ms.headD 0) (kss.headD []) v) ⟨K⟩ := rfl
theorem k_packR0 (ms kss) (K : Pko → Option β) : @kB _ _ (packR H ms kss []) ⟨K⟩ = K (.tup [], [], []) := rfl
theorem k_packR2 (ms kss v w vs) (K : Pko → Option β) : @kB _ _ (packR H ms kss (v :: w :: vs)) ⟨K⟩ = @kB _ _ (packs H ms kss (v :: w :: vs)) ⟨fun p => K (.tup p.1, p.2)⟩ := by
  simp only [packR, kB, kG, gu, if_bind, Option.bind_assoc, Option.bind_some]
theorem k_packL_nil (K : _ → Option β) : @kB _ _ (packL H []) ⟨K⟩ = K ([], [], []) := rfl
theorem k_packL_cons (v vs) (K : _ → Option β) : @kB _ _ (packL H (v :: vs)) ⟨K⟩ = @kB _ _ (pkO H 4 v) ⟨fun p => @kB _ _ (packL H vs) ⟨fun q => K (p.1 :: q.1, p.2.1 ++ q.2.1, p.2.2 ++ q.2.2)⟩⟩ := by
  simp only [packL, kB, kG, gu, if_bind, Option.bind_assoc, Option.bind_some]
theorem lentPs_nil (k) : lentPs k [] = [] := rfl
theorem lentPs_uptr (k cs ds) : lentPs k (.uptr cs :: ds) = .ptr (k + 1) 1 0 0 :: lentPs (k + 1) ds := rfl
theorem lentPs_int (k a n ds) : lentPs k (.int a n :: ds) = lentPs (k + 1) ds := rfl
theorem lentPs_bool (k b ds) : lentPs k (.bool b :: ds) = lentPs (k + 1) ds := rfl
theorem lentPs_str (k b ds) : lentPs k (.str b :: ds) = lentPs (k + 1) ds := rfl
theorem lentPs_sc (k b ds) : lentPs k (.sc b :: ds) = lentPs (k + 1) ds := rfl
theorem lentPs_agg (k b ds) : lentPs k (.agg b :: ds) = lentPs (k + 1) ds := rfl
theorem lentPs_fn (k f a b ds) : lentPs k (.fn f a b :: ds) = lentPs (k + 1) ds := rfl
theorem lentPs_slice (k st es ds) : lentPs k (.slice st es :: ds) = lentPs (k + 1) ds := rfl
theorem lentPs_usl (k st es ds) : lentPs k (.usl st es :: ds) = lentPs (k + 1) ds := rfl
theorem lentPs_iptr (k cs ds) : lentPs k (.iptr cs :: ds) = lentPs (k + 1) ds := rfl
end
def Cf.at (C : Cf) (f : FuncId) : Cf := ⟨C.E, C.M.at f, C.X⟩
theorem at_E (C : Cf) (f) : (C.at f).E = C.E := Eq.trans rfl rfl
theorem at_X (C : Cf) (f) : (C.at f).X = C.X := Eq.trans rfl rfl
theorem at_par (C : Cf) (f) : (C.at f).M.par = C.M.par := Eq.trans rfl rfl
theorem at_res (C : Cf) (f) : (C.at f).M.res = C.M.res := Eq.trans rfl rfl
theorem at_loc (C : Cf) (f) : (C.at f).M.loc = C.M.loc := Eq.trans rfl rfl
theorem at_cur (C : Cf) (f) : (C.at f).M.cur = C.M.nl f := Eq.trans rfl rfl
theorem at_base (C : Cf) (f) : (C.at f).M.base = 0 := Eq.trans rfl rfl
theorem at_inls (C : Cf) (f) : (C.at f).M.inls = C.M.inls := Eq.trans rfl rfl
theorem at_gh (C : Cf) (f) : (C.at f).M.gh = C.M.gh := Eq.trans rfl rfl
theorem at_nl (C : Cf) (f) : (C.at f).M.nl = C.M.nl := Eq.trans rfl rfl
def Cf.inat (C : Cf) (f : FuncId) : Cf := ⟨C.E, C.M.inat f, C.X⟩
theorem inat_E (C : Cf) (f) : (C.inat f).E = C.E := Eq.trans rfl rfl
theorem inat_X (C : Cf) (f) : (C.inat f).X = C.X := Eq.trans rfl rfl
theorem inat_par (C : Cf) (f) : (C.inat f).M.par = C.M.par := Eq.trans rfl rfl
theorem inat_res (C : Cf) (f) : (C.inat f).M.res = C.M.res := Eq.trans rfl rfl
theorem inat_loc (C : Cf) (f) : (C.inat f).M.loc = C.M.loc := Eq.trans rfl rfl
theorem inat_cur (C : Cf) (f) : (C.inat f).M.cur = C.M.nl f := Eq.trans rfl rfl
theorem inat_base (C : Cf) (f) : (C.inat f).M.base = inlB C.M.inls f := Eq.trans rfl rfl
theorem inat_inls (C : Cf) (f) : (C.inat f).M.inls = C.M.inls := Eq.trans rfl rfl
theorem inat_gh (C : Cf) (f) : (C.inat f).M.gh = C.M.gh := Eq.trans rfl rfl
theorem inat_nl (C : Cf) (f) : (C.inat f).M.nl = C.M.nl := Eq.trans rfl rfl
theorem fn_inat (C : Cf) (f) : fn (C.inat f) = fn C := fnE_inat f
theorem il_at (C : Cf) (f) : il (C.at f) = il C := inE_at f
theorem inat_inat (C : Cf) (f g) : (C.inat f).inat g = C.inat g := rfl
theorem at_inat (C : Cf) (f g) : (C.at f).inat g = C.inat g := rfl
theorem inlB_nil (f) : inlB [] f = 0 := Eq.trans rfl rfl
theorem inlB_cons (p l f) : inlB (p :: l) f = if p.1 = f then p.2 else inlB l f := Eq.trans rfl rfl
theorem shD_zero (d) : shD 0 d = d := Eq.trans rfl rfl
theorem shD_some (b : Nat) (d : Tmp) : shD (b + 1) (some d) = some (b + 1 + d) := Eq.trans rfl rfl
theorem shD_none (b : Nat) : shD (b + 1) none = some (b + 1) := Eq.trans rfl rfl
theorem ghO_none (d ρ O) : ghO none d ρ O = O := Eq.trans rfl rfl
def qI {β : Type} (C : Cf) (rvs : List ResultVar) (K : AVal × Heap → Option β) : Exit → St → Option β := fun e s => if isEnd e = true then (rvsE C.E s.fr s.H rvs).bind fun vs => K (tupOf vs, s.H) else none
theorem qI_r (C rvs) (K : AVal × Heap → Option Res) (f H) : qI C rvs K .ret ⟨f, H⟩ = @kRv f H rvs ⟨(C, [], fun vs => K (tupOf vs, H))⟩ := by simp [qI, isEnd, kRv]
theorem tupOf_nil : tupOf [] = .tup [] := rfl
theorem frm_eq (vals : List AVal) : frm vals = frame 0 vals := by
  funext t
  unfold frm
  rw [frame_at]; simp
theorem il_text {C : Cf} {f : FuncId} {g : Func} {code : Code} {rvs : List ResultVar} (hf : C.E.P.funcs[f]? = some g) (hb : g.body = some code) (hr : g.results = List.toArray rvs) {lo : Nat} (hlo : C.M.loc f = lo) {vals H}
    (hok : okInl g code vals = true) (K : AVal × Heap → Option Res) : @kB _ _ (il C f vals H) ⟨K⟩ = dw (C.inat f) lo code (qI C rvs K) ⟨frame 0 vals, H⟩ := by
  unfold il
  rw [inE_eq f vals H (by simp [Program.exFn, hf, hb]), hf]
  simp only [Option.bind_some, hb, gu, hok, if_true, dw, hlo, hr, List.toList_toArray, kB, Option.bind_assoc, frm_eq]
  congr 1
  funext p
  simp only [qI]
  by_cases h : isEnd p.1 = true <;> simp [h, Option.bind_assoc]
theorem inFn_def (P : Program) (f : FuncId) : P.inFn f = (P.goFn f || P.exFn f) := Eq.trans rfl rfl
theorem fn_at (C : Cf) (f) : fn (C.at f) = fn C := fnE_at f
theorem at_none {C : Cf} {f} (h : C.M.nl f = C.M.cur) (h2 : C.M.base = 0) : C.at f = C := by
  obtain ⟨E, M, X⟩ := C
  obtain ⟨a1, a2, a3, a4, a5, a6, a7, a8⟩ := M
  simp only at h h2
  subst h2
  simp only [Cf.at, Mds.at, h]
section
variable {β : Type}
def kN (m : Nat) (v : AVal) (d : Option Tmp) (H : Heap) [K : Hold (Out → Option β)] : Option β :=
  match m with
  | 0 => K.val (v, [], [])
  | k + 1 => match v with
    | .sc (.slice none 0 0) => K.val (.osl (site d) ((H (site d)).gen + 1) 0 0, [site d], [(site d, newObj H (site d) k [])])
    | v => K.val (v, [], [])
theorem k_assN (M H v) (K : Out → Option β) : @kB _ _ (assE M none H v) ⟨K⟩ = K (v, [], []) := rfl
theorem k_assS (M H v) (d : Tmp) (K : Out → Option β) : @kB _ _ (assE M (some d) H v) ⟨K⟩ = @kN _ (nlk M.cur d) v (shD M.base (some d)) H ⟨K⟩ := by
  show (assE M (some d) H v).bind K = _
  have e : assE M (some d) H v = (match nlk M.cur d with
    | 0 => some (v, [], [])
    | k + 1 => match v with
      | .sc (.slice none 0 0) => some (.osl (site (shD M.base (some d))) ((H (site (shD M.base (some d)))).gen + 1) 0 0, [site (shD M.base (some d))], [(site (shD M.base (some d)), newObj H (site (shD M.base (some d))) k [])])
      | v => some (v, [], [])) := rfl
  rw [e]
  unfold kN
  cases nlk M.cur d with
  | zero => rfl
  | succ k =>
    cases v <;> try rfl
    rename_i x
    cases x <;> try rfl
    rename_i a n m
    cases a <;> cases n <;> cases m <;> rfl
theorem kN_zero (v d H) (K : Out → Option β) : @kN _ 0 v d H ⟨K⟩ = K (v, [], []) := rfl
theorem kN_nil (k d H) (K : Out → Option β) : @kN _ (k + 1) (.sc (.slice none 0 0)) d H ⟨K⟩ = K (.osl (site d) ((H (site d)).gen + 1) 0 0, [site d], [(site d, newObj H (site d) k [])]) := rfl
theorem kN_osl (m d H o g i n) (K : Out → Option β) : @kN _ m (.osl o g i n) d H ⟨K⟩ = K (.osl o g i n, [], []) := by cases m <;> rfl
theorem kN_slice (m d H st es) (K : Out → Option β) : @kN _ m (.slice st es) d H ⟨K⟩ = K (.slice st es, [], []) := by cases m <;> rfl
end
theorem nlk_nil (t) : nlk [] t = 0 := Eq.trans rfl rfl
theorem nlk_cons (p l t) : nlk (p :: l) t = if p.1 = t then p.2 + 1 else nlk l t := Eq.trans rfl rfl
theorem fn_textN {C : Cf} {f : FuncId} {g : Func} {code : Code} {rvs : List ResultVar} {ms kss} (hf : C.E.P.funcs[f]? = some g) (hX : C.X f = none) (hb : g.body = some code) (hr : g.results = List.toArray rvs) {lo : Nat} (hlo : C.M.loc f = lo) (hms : C.M.res f = ms) (hks : C.E.P.resK f = kss) {ex ds}
    (hok : okArgs g code ex ds = true) : fn C f ex ds = dw (C.at f) lo code (qE C rvs ms kss ds) ⟨frame 0 (opnVs Heap.nil 0 0 ds), markEx ex (Heap.nil.setAll (opnUs Heap.nil 0 0 ds))⟩ := by
  unfold fn
  rw [fnE_eq, hX, hf]
  simp only [Option.bind_some, hb, gu, hok, if_true, dw, hlo, hms, hks, hr, List.toList_toArray]
  unfold startX
  rw [Am.start_eq]
  rfl
theorem fn_text {C : Cf} {f : FuncId} {g : Func} {code : Code} {rvs : List ResultVar} {ms kss} (hf : C.E.P.funcs[f]? = some g) (hX : C.X f = none) (hb : g.body = some code) (hr : g.results = List.toArray rvs) {lo : Nat} (hlo : C.M.loc f = lo) (hms : C.M.res f = ms) (hks : C.E.P.resK f = kss) {ex ds}
    (hok : okArgs g code ex ds = true) (hnl : C.M.nl f = C.M.cur := by rfl) (hb0 : C.M.base = 0 := by rfl) : fn C f ex ds = dw C lo code (qE C rvs ms kss ds) ⟨frame 0 (opnVs Heap.nil 0 0 ds), markEx ex (Heap.nil.setAll (opnUs Heap.nil 0 0 ds))⟩ := by
  have := fn_textN hf hX hb hr hlo hms hks hok
  rw [at_none hnl hb0] at this
  exact this
theorem fn_own {C : Cf} {f : FuncId} {g} (hX : C.X f = some g) (ex ds) : fn C f ex ds = g ex ds := by
  unfold fn
  rw [fnE_eq, hX]
theorem fnJ_bool (b) : fnJ (.bool b) = .bool b := rfl
theorem fnJ_int (k n) : fnJ (.int k n) = .int k n := rfl
theorem fnJ_str (l) : fnJ (.str l) = .str l := rfl
theorem fnJ_sc (v) : fnJ (.sc v) = .sc v := rfl
theorem fnJ_iptr (cs) : fnJ (.iptr cs) = .iptr cs := rfl
theorem fnJ_slice (st es) : fnJ (.slice st es) = .slice st es := rfl
theorem fnJ_junk  : fnJ (.junk) = .junk := rfl
theorem fnJ_agg (cs) : fnJ (.agg cs) = .agg cs := rfl
theorem fnJ_tup (cs) : fnJ (.tup cs) = .tup cs := rfl
theorem fnJ_osl (o g i n) : fnJ (.osl o g i n) = .osl o g i n := rfl
theorem fnJ_ptr (o g i j) : fnJ (.ptr o g i j) = .ptr o g i j := rfl
theorem fnJ_usl (st es) : fnJ (.usl st es) = .usl st es := rfl
theorem fnJ_fn (f fs cs) : fnJ (.fn f fs cs) = .junk := rfl
theorem mapJ_nil : mapJ [] = [] := rfl
theorem mapJ_cons (v vs) : mapJ (v :: vs) = fnJ v :: mapJ vs := rfl
attribute [go_sem] mapJ_nil mapJ_cons fnJ_fn fnJ_bool fnJ_int fnJ_str fnJ_sc fnJ_iptr fnJ_slice fnJ_junk fnJ_agg fnJ_tup fnJ_osl fnJ_ptr fnJ_usl
attribute [congr] kD_congr
attribute [go_sem ↓] kIf_true kIf_false kB_gu dw_skip dw_label dw_exit dw_ret dw_seq dw_cond dw_block dw_scope noGK_n noGK_r noGK_e dw_loop dw_regF dw_regT restrK_eq thenK_n thenK_r thenK_e inBK_n inBK_r inBK_e rN_nil rN_cons rD_nil rD_cons k_move k_assign k_pick k_alloc k_box k_build k_buildSlice k_fillA_nil k_fillA_cons k_fillR_nil k_fillR_cons k_load k_store k_nilCheck k_binOp k_unOp k_s2a k_convert k_makeFunc k_makeSlice k_slice k_fieldAddr k_indexAddr k_index k_extract k_len k_max k_min k_append k_clear k_cap k_copy k_assN k_assS at_E at_X at_par at_res at_loc at_cur at_base at_inls at_gh at_nl inat_E inat_X inat_par inat_res inat_loc inat_cur inat_base inat_inls inat_gh inat_nl inat_inat at_inat fn_inat il_at fn_at qI_r qE_n qE_r kRet_eq kRv_nil kRv_tmp kRv_cell
attribute [go_sem] kBt_ptr ldR_zero inFn_def Bool.true_or inlB_nil inlB_cons shD_zero shD_some shD_none ghO_none kC_zero kC_succ tupOf_nil tupOf_one tupOf_two kN_zero kN_nil kN_osl kN_slice nlk_nil nlk_cons nlkD_none nlkD_some nilO_none nilO_some nilD_nil nilD_cons nilAt_zero nilAt_succ nil1_nil bsE_zero k_slice3 slice3F_zero slice3F_succ appF_zero appF_succ num_int num_bool num_str kU_bool kU_undef kB_some kB_none kG_of kT_bool kI_int kF_fn kD_false kD_same kn_move kt_move kf_move kn_assign kn_pick kf_pick kn_alloc kn_box kn_build kt_build kn_buildSlice kn_load kt_load kf_load kn_store kn_nilCheck kn_binOp kt_binOp kf_binOp kn_unOp kf_unOp kn_s2a kn_convert kt_convert kn_makeSlice kn_slice kt_slice kn_fieldAddr kt_fieldAddr kf_fieldAddr kn_indexAddr kt_indexAddr kn_index kt_index kf_index kn_extract kn_builtin kt_builtin kf_builtin kn_call kt_call kf_call loadE_ptr loadE_iptr storeE_ptr fieldE_ptr fieldE_iptr indexAddrE_slice indexAddrE_osl indexAddrE_ptr indexAddrE_iptr indexE_str indexE_agg tupE_tup sliceE_str sliceE_slice sliceE_osl s2aE_slice convE_int convE_str convE_slice convE_osl lenE_str lenE_slice lenE_osl srcE_slice srcE_osl srcE_nil srcE_nilx appE_int appE_slice appE_osl appE_str appE_sc appendE_nil appendE_osl zerosE_osl k_callE k_packs_nil k_packs_cons k_pack1 k_pkE_bool k_pkE_int k_pkE_str k_pkE_sc k_pkE_slice k_pkE_agg k_pkE_fn k_pkE_osl k_pkE_ptr k_pkL_nil k_pkL_cons k_pkRows k_pkLL_nil k_pkO_int k_pkO_str k_pkO_sc k_pkO_slice k_pkO_osl k_pkO_ptr k_pkOne k_pkOL_nil k_pkOL_cons k_backE callH_eq callUp_eq mkU_nil mkU_cons callObj_eq lentUp_nil lentUp_cons lentsE_nil lentsE_ptr lentsE_ptri lentsE_int lentsE_bool lentsE_str lentsE_sc lentsE_agg lentsE_fn lentsE_slice lentsE_osl lentsE_iptr exOf_nil exOf_osl exOf_osls exOf_ptr exOf_int exOf_str exOf_scs exOf_scc isNilS_nil exOf_agg exOf_fn exOf_slice lentOk_nil lentOk_cons nodupB_nil nodupB_one nodupB_cons noneIn_nil noneIn_no fixV_int fixV_bool fixV_str fixV_slice fixV_usl fixV_uptr fixV_iptr fixV_fn fixV_nilp fixV_nil fixV_agg fixC_none fixC_cons fix1_zero fix1_slice fix1_nil k_packR1 k_packR0 k_packR2 k_packL_nil k_packL_cons lentPs_nil lentPs_uptr lentPs_int lentPs_bool lentPs_str lentPs_sc lentPs_agg lentPs_fn lentPs_slice lentPs_usl lentPs_iptr List.headD_cons List.headD_nil List.tail_cons List.tail_nil unbyte_map restr_upd restr_restr restr_at restr_junk frame_nil frame_cons markEx_nil markEx_cons
theorem plain_bool (b) : (AVal.bool b).plain = true := rfl
theorem plain_int (k n) : (AVal.int k n).plain = true := rfl
theorem plain_str (l) : (AVal.str l).plain = true := rfl
theorem plain_sc (v) : (AVal.sc v).plain = true := rfl
theorem plain_iptr (cs) : (AVal.iptr cs).plain = true := rfl
theorem plain_slice (st es) : (AVal.slice st es).plain = true := rfl
theorem plain_junk : AVal.junk.plain = true := rfl
theorem plain_agg (cs) : (AVal.agg cs).plain = false := rfl
theorem plain_osl (o g i n) : (AVal.osl o g i n).plain = false := rfl
theorem plain_ptr (o g i n) : (AVal.ptr o g i n).plain = false := rfl
theorem plain_fn (f a b) : (AVal.fn f a b).plain = false := rfl
theorem plain_tup (a) : (AVal.tup a).plain = false := rfl
theorem clo_agg (cs) : (AVal.agg cs).clo = clos cs := rfl
theorem clo_str (l) : (AVal.str l).clo = true := rfl
theorem clo_int (k n) : (AVal.int k n).clo = true := rfl
theorem clo_bool (b) : (AVal.bool b).clo = true := rfl
theorem clo_sc (b) : (AVal.sc b).clo = true := rfl
theorem clo_slice (st es) : (AVal.slice st es).clo = true := rfl
theorem clo_iptr (cs) : (AVal.iptr cs).clo = true := rfl
theorem clo_osl (o g i n) : (AVal.osl o g i n).clo = false := rfl
theorem clo_ptr (o g i n) : (AVal.ptr o g i n).clo = false := rfl
theorem clo_fn (f a c) : (AVal.fn f a c).clo = false := rfl
theorem clos_nil : clos [] = true := rfl
theorem clos_cons (v vs) : clos (v :: vs) = (v.clo && clos vs) := rfl
theorem flat_agg (cs) : (AVal.agg cs).flat = flats cs := rfl
theorem flat_tup (cs) : (AVal.tup cs).flat = flats cs := rfl
theorem flat_str (l) : (AVal.str l).flat = true := rfl
theorem flat_int (k n) : (AVal.int k n).flat = true := rfl
theorem flat_bool (b) : (AVal.bool b).flat = true := rfl
theorem flat_sc (b) : (AVal.sc b).flat = true := rfl
theorem flat_slice (st es) : (AVal.slice st es).flat = false := rfl
theorem flat_usl (st es) : (AVal.usl st es).flat = flatss es := rfl
theorem flat_uptr (cs) : (AVal.uptr cs).flat = flats cs := rfl
theorem flat_iptr (cs) : (AVal.iptr cs).flat = false := rfl
theorem flat_fn (f a c) : (AVal.fn f a c).flat = false := rfl
theorem flats_nil : flats [] = true := rfl
theorem flats_cons (v vs) : flats (v :: vs) = (v.flat && flats vs) := rfl
theorem flatss_nil : flatss [] = true := rfl
theorem flatss_cons (v vs) : flatss (v :: vs) = (flats v && flatss vs) := rfl
theorem flatss_map {α : Type} (f : α → List AVal) (h : ∀ x, flats (f x) = true) : ∀ l : List α, flatss (l.map f) = true
  | [] => rfl
  | x :: l => by simp [flatss, h x, flatss_map f h l]
theorem allclos_map {α : Type} (f : α → List AVal) (h : ∀ x, clos (f x) = true) (l : List α) : (l.map f).all clos = true := by simp [h]
theorem flatss_byte (l : List UInt8) : flatss (l.map byteRow) = true := flatss_map _ (fun _ => rfl) l
theorem allclos_byte (l : List UInt8) : (l.map byteRow).all clos = true := allclos_map _ (fun _ => rfl) l
theorem ones_byte (l : List UInt8) : ones (l.map byteRow) = true := ones_map _ l fun _ => rfl
attribute [go_sem] plain_bool plain_int plain_str plain_sc plain_iptr plain_slice plain_junk plain_agg plain_osl plain_ptr plain_fn plain_tup clo_agg clo_str clo_int clo_bool clo_sc clo_slice clo_iptr clo_osl clo_ptr clo_fn clos_nil clos_cons flat_agg flat_tup flat_str flat_int flat_bool flat_sc flat_slice flat_usl flat_uptr flat_iptr flat_fn flats_nil flats_cons flatss_nil flatss_cons flatss_byte allclos_byte ones_byte List.all_append Bool.and_self
end Go.Am
