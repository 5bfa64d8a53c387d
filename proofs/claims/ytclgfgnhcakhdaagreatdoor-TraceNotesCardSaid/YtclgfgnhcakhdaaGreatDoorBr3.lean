import Derived.Test.YtclgfgnhcakhdaaGreatDoorBr2
namespace Go.Am
inductive Shp where
  | b
  | i (k : IntKind)
  | s
  | sl (n : Nat) (cs : List Shp)
mutual
def Sh : Shp → AVal → Prop
  | .b, a => ∃ b, a = .bool b
  | .i k, a => ∃ z, a = .int k z ∧ (Lit.int k z).wf = true
  | .s, a => ∃ l : List UInt8, a = .str l ∧ l.length ≤ 9223372036854775807
  | .sl n cs, a => ∃ es, a = .slice n es ∧ es.length ≤ 9223372036854775807 ∧ ∀ r ∈ es, Shs cs r
def Shs : List Shp → List AVal → Prop
  | [], as => as = []
  | c :: cs, as => ∃ a as', as = a :: as' ∧ Sh c a ∧ Shs cs as'
end
theorem Shs_append : ∀ {a b : List Shp} {x y : List AVal}, Shs a x → Shs b y → Shs (a ++ b) (x ++ y)
  | [], _, _, _, h, k => by simp only [Shs] at h; subst h; exact k
  | c :: a, b, _, y, h, k => by
    simp only [Shs] at h
    obtain ⟨v, as', rfl, h1, h2⟩ := h
    simp only [List.cons_append, Shs]
    exact ⟨v, as' ++ y, rfl, h1, Shs_append h2 k⟩
def shT (P : Program) : Nat → TypeId → Option (List Shp)
  | 0, _ => none
  | n + 1, t => match P.underlying t with
    | some .bool => some [.b]
    | some (.int k) => some [.i k]
    | some .string => some [.s]
    | some (.slice e) => (shT P n e).map fun cs => [.sl (P.cellsOf e) cs]
    | some (.struct fs) => if tilesB P 0 fs.toList (P.cellsOf t) = true then (fs.toList.mapM fun f => shT P n f.type).map List.flatten else none
    | some (.array m e) => if m * P.cellsOf e = P.cellsOf t then (shT P n e).map fun cs => (List.replicate m cs).flatten else none
    | _ => none
theorem shs_fields {P : Program} {n : Nat} {as : List AVal} {e : Nat} (G : Field → Option (List Shp)) : ∀ (fs : List Field) (o : Nat) (css : List (List Shp)), tilesB P o fs e = true → as.length = e →
    (∀ f ∈ fs, ∀ cs, G f = some cs → Shs cs ((as.drop f.offset).take (P.cellsOf f.type))) → fs.mapM G = some css → Shs css.flatten (as.drop o)
  | [], o, css, ht, hl, _, hm => by
    simp only [List.mapM_nil, Option.pure_def, Option.some.injEq] at hm
    subst hm
    simp only [tilesB, beq_iff_eq] at ht
    simp only [List.flatten_nil, Shs]
    exact List.drop_of_length_le (by omega)
  | f :: fs, o, css, ht, hl, h, hm => by
    simp only [List.mapM_cons, Option.bind_eq_bind, Option.pure_def, Option.bind_eq_some_iff, Option.some.injEq] at hm
    obtain ⟨cs, h1, css', h2, rfl⟩ := hm
    simp only [tilesB, Bool.and_eq_true, beq_iff_eq] at ht
    obtain ⟨rfl, ht⟩ := ht
    rw [← List.take_append_drop (P.cellsOf f.type) (as.drop f.offset), List.drop_drop, List.flatten_cons]
    exact Shs_append (h f (by simp) cs h1) (shs_fields (n := n) G fs _ css' ht hl (fun f hf => h f (by simp [hf])) h2)
theorem shs_rep {as : List AVal} {c : Nat} {cs : List Shp} : ∀ (m : Nat) (o : Nat), as.length = (o + m) * c → (∀ i, o ≤ i → i < o + m → Shs cs ((as.drop (i * c)).take c)) → Shs (List.replicate m cs).flatten (as.drop (o * c))
  | 0, o, hl, _ => by
    simp only [List.replicate_zero, List.flatten_nil, Shs]
    exact List.drop_of_length_le (by rw [hl]; simp)
  | m + 1, o, hl, h => by
    rw [← List.take_append_drop c (as.drop (o * c)), List.drop_drop, List.replicate_succ, List.flatten_cons]
    refine Shs_append (h o (Nat.le_refl _) (by omega)) ?_
    have := shs_rep (as := as) (c := c) (cs := cs) m (o + 1) (by rw [hl]; congr 1; omega) (fun i h1 h2 => h i (by omega) (by omega))
    rw [Nat.add_mul, Nat.one_mul] at this
    exact this
theorem TA_sh {P : Program} : ∀ (n m : Nat) (t : TypeId) (as : List AVal) (cs : List Shp), TA P n t as → shT P m t = some cs → Shs cs as
  | 0, _, _, _, _, h, _ => by simp [TA] at h
  | _ + 1, 0, _, _, _, _, h => by simp [shT] at h
  | n + 1, m + 1, t, as, cs, h, hs => by
    unfold TA at h
    unfold shT at hs
    split at hs
    · rename_i hu
      rw [hu] at h
      simp only [Option.some.injEq] at hs; subst hs
      obtain ⟨b, rfl⟩ := h
      exact ⟨_, [], rfl, by simp only [Sh]; exact ⟨b, rfl⟩, rfl⟩
    · rename_i k hu
      rw [hu] at h
      simp only [Option.some.injEq] at hs; subst hs
      obtain ⟨z, rfl, hz⟩ := h
      exact ⟨_, [], rfl, by simp only [Sh]; exact ⟨z, rfl, hz⟩, rfl⟩
    · rename_i hu
      rw [hu] at h
      simp only [Option.some.injEq] at hs; subst hs
      obtain ⟨l, rfl, hl⟩ := h
      exact ⟨_, [], rfl, by simp only [Sh]; exact ⟨l, rfl, hl⟩, rfl⟩
    · rename_i e hu
      rw [hu] at h
      simp only [Option.map_eq_some_iff] at hs
      obtain ⟨ec, he, rfl⟩ := hs
      obtain ⟨es, rfl, hl, hr⟩ := h
      exact ⟨_, [], rfl, by simp only [Sh]; exact ⟨es, rfl, hl, fun r hm => TA_sh n m e r ec (hr r hm) he⟩, rfl⟩
    · rename_i fs hu
      rw [hu] at h
      split at hs
      · rename_i ht
        simp only [Option.map_eq_some_iff] at hs
        obtain ⟨css, hm, rfl⟩ := hs
        have := shs_fields (n := n) (fun f => shT P m f.type) fs.toList 0 css ht h.1 (fun f hf cs hc => TA_sh n m f.type _ cs (h.2 f hf) hc) hm
        simpa using this
      · cases hs
    · rename_i k e hu
      rw [hu] at h
      split at hs
      · rename_i hk
        simp only [Option.map_eq_some_iff] at hs
        obtain ⟨ec, he, rfl⟩ := hs
        have := shs_rep (as := as) (c := P.cellsOf e) (cs := ec) k 0 (by rw [h.1, ← hk]; simp) (fun i _ hi => TA_sh n m e _ ec (h.2 i (by omega)) he)
        simpa using this
      · cases hs
    · cases hs
def aggT (P : Program) (t : TypeId) : Bool := match P.underlying t with | some (.struct _) => true | some (.array _ _) => true | _ => false
def ArgSh : List (Bool × List Shp) → List AVal → Prop
  | [], ds => ds = []
  | (g, cs) :: ts, ds => ∃ as ds', ds = (if g = true then .agg as else as.headD .junk) :: ds' ∧ Shs cs as ∧ ArgSh ts ds'
theorem topA_eq (P : Program) (t : TypeId) (as : List AVal) : topA P t as = if aggT P t = true then .agg as else as.headD .junk := by
  unfold topA aggT
  split <;> simp_all
def argShT (P : Program) (m : Nat) (ts : List TypeId) : Option (List (Bool × List Shp)) := ts.mapM fun t => (shT P m t).map fun cs => (aggT P t, cs)
theorem TAs_sh {P : Program} {m : Nat} : ∀ {ts : List TypeId} {ds : List AVal} {tops : List (Bool × List Shp)}, TAs P ts ds → argShT P m ts = some tops → ArgSh tops ds
  | [], ds, tops, h, hs => by
    simp only [argShT, List.mapM_nil, Option.pure_def, Option.some.injEq] at hs
    subst hs
    exact h
  | t :: ts, ds, tops, h, hs => by
    simp only [argShT, List.mapM_cons, Option.bind_eq_bind, Option.pure_def, Option.bind_eq_some_iff, Option.map_eq_some_iff, Option.some.injEq] at hs
    obtain ⟨_, ⟨cs, h1, rfl⟩, tops', h2, rfl⟩ := hs
    obtain ⟨n, as, ds', rfl, g1, g2⟩ := h
    exact ⟨as, ds', by rw [topA_eq], TA_sh n m t as cs g1 h1, TAs_sh g2 h2⟩
theorem ArgSh_one (c : Shp) (ts ds) : ArgSh ((false, [c]) :: ts) ds ↔ ∃ a ds', ds = a :: ds' ∧ Sh c a ∧ ArgSh ts ds' := by
  constructor
  · rintro ⟨as, ds', rfl, h1, h2⟩
    simp only [Shs] at h1
    obtain ⟨a, _, rfl, h1, rfl⟩ := h1
    exact ⟨a, ds', rfl, h1, h2⟩
  · rintro ⟨a, ds', rfl, h1, h2⟩
    exact ⟨[a], ds', rfl, by simp only [Shs]; exact ⟨a, [], rfl, h1, rfl⟩, h2⟩
theorem ArgSh_agg (cs : List Shp) (ts ds) : ArgSh ((true, cs) :: ts) ds ↔ ∃ as ds', ds = .agg as :: ds' ∧ Shs cs as ∧ ArgSh ts ds' := Iff.rfl
theorem ArgSh_nil (ds) : ArgSh [] ds ↔ ds = [] := Iff.rfl
theorem rows_map {α : Type} (f : α → List AVal) (p : α → Prop) : ∀ {es : List (List AVal)}, (∀ r ∈ es, ∃ x, r = f x ∧ p x) → ∃ l : List α, es = l.map f ∧ ∀ x ∈ l, p x
  | [], _ => ⟨[], rfl, by simp⟩
  | r :: rs, h => by
    obtain ⟨x, rfl, hx⟩ := h r (by simp)
    obtain ⟨l, rfl, hl⟩ := rows_map (es := rs) f p (fun r hr => h r (List.mem_cons_of_mem _ hr))
    exact ⟨x :: l, rfl, by simpa using ⟨hx, hl⟩⟩
theorem wf_i64 {z : Int} (h : (Lit.int .i64 z).wf = true) : -9223372036854775808 ≤ z ∧ z ≤ 9223372036854775807 := by
  simpa [Lit.wf, IntKind.min, IntKind.max, IntKind.signed, IntKind.bits] using h
theorem wf_u64 {z : Int} (h : (Lit.int .u64 z).wf = true) : 0 ≤ z ∧ z ≤ 18446744073709551615 := by
  simpa [Lit.wf, IntKind.min, IntKind.max, IntKind.signed, IntKind.bits] using h
theorem wf_u8 {z : Int} (h : (Lit.int .u8 z).wf = true) : 0 ≤ z ∧ z ≤ 255 := by
  simpa [Lit.wf, IntKind.min, IntKind.max, IntKind.signed, IntKind.bits] using h
end Go.Am
