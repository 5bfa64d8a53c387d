import Derived.Test.YtpdaanlppimbcaaTMerge
namespace Go.Proofs.Ytpdaanlppimbcaa
open Go.Am
set_option linter.unusedSimpArgs false
set_option linter.unusedVariables false
set_option maxRecDepth 100000
/-! Stores: what a put, a merge come to. -/
theorem bl_irrefl (a : List UInt8) : Op.bytesLess a a = false := by
  induction a with
  | nil => rfl
  | cons x a ih => simp [Op.bytesLess, ih]
theorem bl_trans : ∀ (a b c : List UInt8), Op.bytesLess a b = true → Op.bytesLess b c = true → Op.bytesLess a c = true
  | _, [], _, h, _ => by simp [Op.bytesLess] at h
  | _, _ :: _, [], _, h => by simp [Op.bytesLess] at h
  | [], _ :: _, _ :: _, _, _ => rfl
  | x :: a, y :: b, z :: c, h, k => by
    simp only [Op.bytesLess, Bool.or_eq_true, Bool.and_eq_true, decide_eq_true_eq, beq_iff_eq] at h k ⊢
    rcases h with h | ⟨rfl, h⟩
    · rcases k with k | ⟨rfl, k⟩
      · left; rw [UInt8.lt_iff_toNat_lt] at *; omega
      · left; exact h
    · rcases k with k | ⟨rfl, k⟩
      · left; exact k
      · right; exact ⟨rfl, bl_trans a b c h k⟩
theorem bl_total : ∀ (a b : List UInt8), Op.bytesLess a b = false → a ≠ b → Op.bytesLess b a = true
  | [], [], _, h => absurd rfl h
  | _ :: _, [], _, _ => rfl
  | [], _ :: _, h, _ => by simp [Op.bytesLess] at h
  | x :: a, y :: b, h, hne => by
    simp only [Op.bytesLess, Bool.or_eq_false_iff, decide_eq_false_iff_not, Bool.and_eq_false_iff, beq_eq_false_iff_ne, ne_eq] at h
    simp only [Op.bytesLess, Bool.or_eq_true, Bool.and_eq_true, decide_eq_true_eq, beq_iff_eq]
    obtain ⟨h1, h2⟩ := h
    by_cases e : x = y
    · subst e
      right
      refine ⟨rfl, bl_total a b ?_ fun e => hne (by rw [e])⟩
      rcases h2 with h2 | h2
      · exact absurd rfl h2
      · exact h2
    · left
      rw [UInt8.lt_iff_toNat_lt] at *
      have : x.toNat ≠ y.toNat := fun h => e (UInt8.toNat_inj.1 h)
      omega
def BL (a b : It) : Prop := Op.bytesLess a.k b.k = true
/-- Items by rising keys. -/
def Srt (l : List It) : Prop := l.Pairwise BL
theorem chain_iff (l : List It) : ∀ p : Option It, chainR p l = true ↔ ((∀ x ∈ l, itemR x = true) ∧ Srt l ∧ ∀ y, p = some y → ∀ x ∈ l, BL y x) := by
  induction l with
  | nil => intro p; simp [chainR, Srt]
  | cons x l ih =>
    intro p
    simp only [chainR, Bool.and_eq_true, ih, Srt, List.pairwise_cons, List.mem_cons, forall_eq_or_imp, Option.some.injEq, forall_eq']
    constructor
    · rintro ⟨⟨h1, h2⟩, h3, h4, h5⟩
      refine ⟨⟨h1, h3⟩, ⟨h5, h4⟩, ?_⟩
      rintro y rfl
      exact ⟨h2, fun z hz => bl_trans _ _ _ h2 (h5 z hz)⟩
    · rintro ⟨⟨h1, h3⟩, ⟨h5, h4⟩, h6⟩
      refine ⟨⟨h1, ?_⟩, h3, h4, h5⟩
      cases p with
      | none => rfl
      | some y => exact (h6 y rfl).1
theorem right_iff (l : List It) : rightR l = true ↔ ((∀ x ∈ l, itemR x = true) ∧ Srt l ∧ l.length ≤ 16) := by
  simp only [rightR, Bool.and_eq_true, chain_iff, decide_eq_true_eq, reduceCtorEq, false_implies, implies_true, and_true]
  exact and_assoc

theorem getR_eq (l : List It) (k : List UInt8) : getR l k = match l.find? (fun x => decide (x.k = k)) with | some x => (x, true) | none => (zeroIt, false) := rfl
theorem getR_skip (a : List It) (b : List It) (k : List UInt8) (h : ∀ z ∈ a, z.k ≠ k) : getR (a ++ b) k = getR b k := by
  have : a.find? (fun x => decide (x.k = k)) = none := by simpa using h
  rw [getR_eq, getR_eq, List.find?_append, this]; rfl
theorem getR_here (x : It) (b : List It) : getR (x :: b) x.k = (x, true) := by simp [getR_eq]
theorem getR_there (x : It) (b : List It) (k : List UInt8) (h : x.k ≠ k) : getR (x :: b) k = getR b k := by simp [getR_eq, List.find?_cons, h]
theorem getR_app (a b : List It) (x : It) (k : List UInt8) (h : x.k ≠ k) : getR (a ++ x :: b) k = getR (a ++ b) k := by
  simp [getR_eq, List.find?_append, List.find?_cons, h]
theorem getR_no (l : List It) (k : List UInt8) : (getR l k).2 = false ↔ ∀ z ∈ l, z.k ≠ k := by
  rw [getR_eq]
  split
  · rename_i x h
    simp only [reduceCtorEq, Bool.true_eq_false, false_iff]
    intro hn
    have h1 := List.find?_some h
    exact hn x (List.mem_of_find?_eq_some h) (by simpa using h1)
  · rename_i h; simpa using h
theorem getR_yes (l : List It) (k : List UInt8) (h : (getR l k).2 = true) : (getR l k).1 ∈ l ∧ (getR l k).1.k = k := by
  rw [getR_eq] at h ⊢
  split at h
  · rename_i x hx
    have h1 := List.find?_some hx
    exact ⟨List.mem_of_find?_eq_some hx, by simpa using h1⟩
  · cases h
/-- In a sorted list each item is got by its key. -/
theorem getR_mem {l : List It} (hs : Srt l) {x : It} (h : x ∈ l) : getR l x.k = (x, true) := by
  induction l with
  | nil => cases h
  | cons y l ih =>
    rw [Srt, List.pairwise_cons] at hs
    rcases List.mem_cons.1 h with rfl | h
    · exact getR_here _ _
    · rw [getR_there _ _ _ (fun e => ?_)]
      · exact ih hs.2 h
      · have := hs.1 x h
        rw [BL, e, bl_irrefl] at this; cases this

theorem insAt_spec (l : List It) (k : List UInt8) : (∀ z ∈ l.take (insAt l k), Op.bytesLess z.k k = true) ∧ ∀ z r, l.drop (insAt l k) = z :: r → Op.bytesLess z.k k = false := by
  induction l with
  | nil => simp [insAt]
  | cons x l ih =>
    simp only [insAt]
    split
    · rename_i h
      simp only [List.take_succ_cons, List.drop_succ_cons, List.mem_cons, forall_eq_or_imp]
      exact ⟨⟨h, ih.1⟩, ih.2⟩
    · rename_i h
      simp only [List.take_zero, List.drop_zero, List.not_mem_nil, false_implies, implies_true, List.cons.injEq, true_and]
      rintro z r ⟨rfl, rfl⟩
      simpa using h
/-- What setting an item comes to. -/
theorem set_cases (l : List It) (x : It) : (∃ a y b, l = a ++ y :: b ∧ y.k = x.k ∧ (∀ z ∈ a, z.k ≠ x.k) ∧ setR l x = a ++ x :: b) ∨
    (∃ a b, l = a ++ b ∧ (∀ z ∈ l, z.k ≠ x.k) ∧ (∀ z ∈ a, Op.bytesLess z.k x.k = true) ∧ (∀ z r, b = z :: r → Op.bytesLess z.k x.k = false) ∧ setR l x = a ++ x :: b) := by
  rcases place_cases l x.k with ⟨j, hj, he, hn, hp, hg⟩ | ⟨hn, hp, hg⟩
  · left
    refine ⟨l.take j, l[j], l.drop (j + 1), ?_, he, ?_, ?_⟩
    · rw [← List.drop_eq_getElem_cons hj, List.take_append_drop]
    · intro z hz; have := List.all_eq_true.1 hn z hz; simpa using this
    · rw [setR, hp, if_pos (by omega)]
      rw [Int.toNat_natCast, List.set_eq_take_append_cons_drop, if_pos hj]
  · right
    obtain ⟨h1, h2⟩ := insAt_spec l x.k
    refine ⟨l.take (insAt l x.k), l.drop (insAt l x.k), (List.take_append_drop _ _).symm, ?_, h1, h2, ?_⟩
    · intro z hz; have := List.all_eq_true.1 hn z hz; simpa using this
    · rw [setR, hp, if_neg (by omega)]
theorem set_mem (l : List It) (x z : It) (h : z ∈ setR l x) : z ∈ l ∨ z = x := by
  rcases set_cases l x with ⟨a, y, b, rfl, _, _, e⟩ | ⟨a, b, rfl, _, _, _, e⟩ <;> rw [e] at h <;> simp only [List.mem_append, List.mem_cons] at h ⊢ <;> rcases h with h | h | h <;> simp [h]
theorem set_get (l : List It) (x : It) : getR (setR l x) x.k = (x, true) := by
  rcases set_cases l x with ⟨a, y, b, rfl, _, h, e⟩ | ⟨a, b, rfl, h, _, _, e⟩
  · rw [e, getR_skip _ _ _ h, getR_here]
  · rw [e, getR_skip _ _ _ (fun z hz => h z (List.mem_append_left _ hz)), getR_here]
theorem set_other (l : List It) (x : It) (k : List UInt8) (hk : k ≠ x.k) : getR (setR l x) k = getR l k := by
  rcases set_cases l x with ⟨a, y, b, rfl, h1, h, e⟩ | ⟨a, b, rfl, h, _, _, e⟩
  · rw [e, getR_app _ _ _ _ (fun e => hk e.symm), getR_app _ _ _ _ (fun e => hk (by rw [← e, h1]))]
  · rw [e, getR_app _ _ _ _ (fun e => hk e.symm)]
theorem set_len (l : List It) (x : It) : (setR l x).length = if (getR l x.k).2 = true then l.length else l.length + 1 := by
  rcases set_cases l x with ⟨a, y, b, rfl, h1, h, e⟩ | ⟨a, b, rfl, h, _, _, e⟩
  · have : (getR (a ++ y :: b) x.k).2 = true := by rw [getR_skip _ _ _ h, ← h1, getR_here]
    rw [if_pos this, e]; simp
  · have : (getR (a ++ b) x.k).2 = false := (getR_no _ _).2 h
    rw [if_neg (by simp [this]), e]; simp; omega
theorem set_srt (l : List It) (x : It) (hs : Srt l) : Srt (setR l x) := by
  rcases set_cases l x with ⟨a, y, b, rfl, h1, h, e⟩ | ⟨a, b, rfl, h, h2, h3, e⟩
  · rw [e]
    unfold Srt at hs ⊢
    rw [List.pairwise_append, List.pairwise_cons] at hs ⊢
    obtain ⟨p1, ⟨p2, p3⟩, p4⟩ := hs
    refine ⟨p1, ⟨fun z hz => ?_, p3⟩, fun z hz w hw => ?_⟩
    · have := p2 z hz; rw [BL, h1] at this; exact this
    · rcases List.mem_cons.1 hw with rfl | hw
      · have := p4 z hz y (by simp); rw [BL, h1] at this; exact this
      · exact p4 z hz w (by simp [hw])
  · rw [e]
    unfold Srt at hs ⊢
    rw [List.pairwise_append] at hs ⊢
    rw [List.pairwise_cons]
    obtain ⟨p1, p3, p4⟩ := hs
    have hb : ∀ z ∈ b, BL x z := by
      cases b with
      | nil => simp
      | cons y b =>
        have hy : BL x y := bl_total _ _ (h3 y b rfl) (h y (by simp))
        rw [List.pairwise_cons] at p3
        intro z hz
        rcases List.mem_cons.1 hz with rfl | hz
        · exact hy
        · exact bl_trans _ _ _ hy (p3.1 z hz)
    refine ⟨p1, ⟨hb, p3⟩, fun z hz w hw => ?_⟩
    rcases List.mem_cons.1 hw with rfl | hw
    · exact h2 z hz
    · exact p4 z hz w hw
/-- Setting a right item keeps a store right, where there is room. -/
theorem set_right (l : List It) (x : It) (hr : rightR l = true) (hx : itemR x = true) (hroom : (getR l x.k).2 = true ∨ l.length < 16) : rightR (setR l x) = true := by
  rw [right_iff] at hr ⊢
  obtain ⟨h1, h2, h3⟩ := hr
  refine ⟨fun z hz => ?_, set_srt l x h2, ?_⟩
  · rcases set_mem l x z hz with h | rfl
    · exact h1 z h
    · exact hx
  · rw [set_len]
    rcases hroom with h | h
    · rw [if_pos h]; exact h3
    · split <;> omega
theorem get_n (l : List It) (k : List UInt8) (hr : rightR l = true) : 0 ≤ (getR l k).1.n ∧ (getR l k).1.n ≤ 1073741824 := by
  rcases Bool.eq_false_or_eq_true (getR l k).2 with h | h
  · have h1 := ((right_iff l).1 hr).1 _ (getR_yes l k h).1
    simp only [itemR, Bool.and_eq_true, decide_eq_true_eq] at h1
    omega
  · rw [getR_false l k h]; simp [zeroIt]
theorem put_mem (l : List It) (k v : List UInt8) (g : Bool) (z : It) (h : z ∈ (putR l k v g).1) : z ∈ l ∨ z.k = k := by
  unfold putR at h
  split at h
  · split at h
    · exact .inl h
    · split at h
      · exact .inl h
      · rcases set_mem _ _ _ h with h | h
        · exact .inl h
        · exact .inr (by rw [h])
  · exact .inl h
/-- What a put is, where it is done; else all is as it was. -/
theorem put_cases (l : List It) (k v : List UInt8) (g : Bool) (hr : rightR l = true) :
    ((putR l k v g).2.2 ≠ 0 ∧ (putR l k v g).1 = l ∧ (putR l k v g).2.1 = zeroIt) ∨
    (∃ x : It, putR l k v g = (setR l x, x, 0) ∧ x.k = k ∧ keyR k = true ∧ x.v = (if g = true then [] else v) ∧ x.n = (getR l k).1.n + 1 ∧ x.g = g ∧ itemR x = true ∧ ((getR l k).2 = true ∨ l.length < 16)) := by
  have hn := get_n l k hr
  unfold putR
  split
  · rename_i hk
    split
    · left; simp
    · rename_i hf
      split
      · left; simp
      · rename_i hb
        right
        have e : putV (getR l k).1.n = (getR l k).1.n + 1 := by unfold putV; rw [if_neg (by omega)]
        refine ⟨_, rfl, rfl, hk.1, rfl, e, rfl, ?_, ?_⟩
        · simp only [itemR, Bool.and_eq_true, decide_eq_true_eq, e]
          refine ⟨⟨⟨hk.1, ?_⟩, by omega⟩, by omega⟩
          split
          · simp
          · exact hk.2
        · rcases Bool.eq_false_or_eq_true (getR l k).2 with h | h
          · exact .inl h
          · right
            have : ¬ 16 ≤ l.length := fun h' => hf ⟨h, h'⟩
            omega
  · left; simp
theorem put_right (l : List It) (k v : List UInt8) (g : Bool) (hr : rightR l = true) : rightR (putR l k v g).1 = true := by
  rcases put_cases l k v g hr with ⟨_, h, _⟩ | ⟨x, h, hk, _, _, _, _, hx, hroom⟩
  · rw [h]; exact hr
  · rw [h]; exact set_right l x hr hx (by rw [hk]; exact hroom)
theorem mergeS_right (s : List It × Int) (x : It) (hr : rightR s.1 = true) : rightR (mergeS s x).1 = true := by
  unfold mergeS
  split
  · rename_i hx
    split
    · exact hr
    · split
      · exact hr
      · rename_i h1 h2
        refine set_right _ _ hr hx ?_
        rcases Bool.eq_false_or_eq_true (getR s.1 x.k).2 with h | h
        · exact .inl h
        · right
          have : ¬ 16 ≤ s.1.length := fun h' => h2 ⟨h, h'⟩
          omega
  · exact hr
theorem foldl_right (more : List It) : ∀ s : List It × Int, rightR s.1 = true → rightR (more.foldl mergeS s).1 = true := by
  induction more with
  | nil => exact fun s h => h
  | cons x more ih => exact fun s h => ih _ (mergeS_right s x h)
theorem merge_right (l more : List It) (hr : rightR l = true) : rightR (mergeR l more).1 = true := foldl_right more (l, 0) hr

/-! ### Versions grow; merged once more nothing changes -/
/-- What is known of a key is no older. -/
def Newer (s t : List It) : Prop := (∀ k, (getR s k).2 = true → (getR t k).2 = true ∧ (getR s k).1.n ≤ (getR t k).1.n) ∧ s.length ≤ t.length ∧ (16 ≤ s.length → ∀ k, (getR s k).2 = false → (getR t k).2 = false)
theorem Newer.refl (s : List It) : Newer s s := ⟨fun k h => ⟨h, Int.le_refl _⟩, Nat.le_refl _, fun _ _ h => h⟩
theorem Newer.trans {s t u : List It} (h : Newer s t) (k : Newer t u) : Newer s u :=
  ⟨fun x hx => ⟨(k.1 x (h.1 x hx).1).1, Int.le_trans (h.1 x hx).2 (k.1 x (h.1 x hx).1).2⟩, Nat.le_trans h.2.1 k.2.1, fun h16 x hx => k.2.2 (Nat.le_trans h16 h.2.1) x (h.2.2 h16 x hx)⟩
theorem mergeS_newer (s : List It × Int) (x : It) : Newer s.1 (mergeS s x).1 := by
  unfold mergeS
  split
  · split
    · exact .refl _
    · rename_i h1
      split
      · exact .refl _
      · rename_i h2
        refine ⟨fun k hk => ?_, ?_, fun h16 k hk => ?_⟩
        · by_cases e : k = x.k
          · subst e
            simp only [set_get, true_and]
            have : ¬ x.n ≤ (getR s.1 x.k).1.n := fun h' => h1 ⟨hk, h'⟩
            omega
          · simp only [set_other _ _ _ e]; exact ⟨hk, Int.le_refl _⟩
        · simp only [set_len]; split <;> omega
        · have hx : (getR s.1 x.k).2 = true := by
            rcases Bool.eq_false_or_eq_true (getR s.1 x.k).2 with h | h
            · exact h
            · exact absurd ⟨h, h16⟩ h2
          by_cases e : k = x.k
          · subst e; rw [hk] at hx; cases hx
          · simp only [set_other _ _ _ e]; exact hk
  · exact .refl _
theorem foldl_newer (more : List It) : ∀ s : List It × Int, Newer s.1 (more.foldl mergeS s).1 := by
  induction more with
  | nil => exact fun s => .refl _
  | cons x more ih => exact fun s => (mergeS_newer s x).trans (ih _)
theorem merge_newer (l more : List It) : Newer l (mergeR l more).1 := foldl_newer more (l, 0)
/-- What was merged is there, or there was no room. -/
def Taken (s : List It) (x : It) : Prop := itemR x = true → ((getR s x.k).2 = true ∧ x.n ≤ (getR s x.k).1.n) ∨ ((getR s x.k).2 = false ∧ 16 ≤ s.length)
theorem Taken.newer {s t : List It} {x : It} (h : Taken s x) (k : Newer s t) : Taken t x := fun hx => by
  rcases h hx with ⟨h1, h2⟩ | ⟨h1, h2⟩
  · exact .inl ⟨(k.1 _ h1).1, Int.le_trans h2 (k.1 _ h1).2⟩
  · exact .inr ⟨k.2.2 h2 _ h1, Nat.le_trans h2 k.2.1⟩
theorem mergeS_taken (s : List It × Int) (x : It) : Taken (mergeS s x).1 x := by
  intro hx
  unfold mergeS
  rw [if_pos hx]
  split
  · rename_i h; exact .inl h
  · split
    · rename_i h; exact .inr h
    · left; simp [set_get]
theorem foldl_taken (more : List It) : ∀ s : List It × Int, ∀ x ∈ more, Taken (more.foldl mergeS s).1 x := by
  induction more with
  | nil => exact fun s x h => by cases h
  | cons y more ih =>
    intro s x h
    rcases List.mem_cons.1 h with rfl | h
    · exact (mergeS_taken s x).newer (foldl_newer more _)
    · exact ih _ x h
theorem merge_taken (l more : List It) : ∀ x ∈ more, Taken (mergeR l more).1 x := foldl_taken more (l, 0)
/-- Was one refused? -/
def refused (s : List It) (more : List It) : Bool := more.any fun x => itemR x && !(getR s x.k).2
theorem foldl_bad (more : List It) : ∀ s : List It × Int, (more.foldl mergeS s).2 = if refused (more.foldl mergeS s).1 more = true then 27 else s.2 := by
  induction more with
  | nil => intro s; rfl
  | cons x more ih =>
    intro s
    rw [List.foldl_cons, ih]
    have hnew := foldl_newer more (mergeS s x)
    generalize (more.foldl mergeS (mergeS s x)).1 = t at hnew
    have rc : refused t (x :: more) = true ↔ (itemR x = true ∧ (getR t x.k).2 = false) ∨ refused t more = true := by simp [refused]
    by_cases hr : refused t more = true
    · rw [if_pos hr, if_pos (rc.2 (.inr hr))]
    · rw [if_neg hr]
      by_cases hx : itemR x = true
      · by_cases h : (getR s.1 x.k).2 = false ∧ 16 ≤ s.1.length
        · have e : mergeS s x = (s.1, 27) := by
            unfold mergeS; rw [if_pos hx, if_neg (by simp [h.1]), if_pos h]
          rw [e] at hnew ⊢
          rw [if_pos (rc.2 (.inl ⟨hx, hnew.2.2 h.2 _ h.1⟩))]
        · have e : (mergeS s x).2 = s.2 := by
            unfold mergeS; rw [if_pos hx, if_neg h]; split <;> rfl
          have ht := mergeS_taken s x hx
          have hin : (getR (mergeS s x).1 x.k).2 = true := by
            rcases ht with h' | h'
            · exact h'.1
            · exfalso
              unfold mergeS at h'
              rw [if_pos hx, if_neg h] at h'
              split at h'
              · exact h h'
              · simp [set_get] at h'
          rw [e, if_neg]
          rw [rc]
          rintro (⟨_, h'⟩ | h')
          · have := (hnew.1 _ hin).1; rw [h'] at this; cases this
          · exact hr h'
      · have e : mergeS s x = s := by unfold mergeS; rw [if_neg hx]
        rw [e, if_neg]
        rw [rc]
        rintro (⟨h', _⟩ | h')
        · exact hx h'
        · exact hr h'
theorem merge_bad (l more : List It) : (mergeR l more).2 = if refused (mergeR l more).1 more = true then 27 else 0 := foldl_bad more (l, 0)
theorem foldl_again (more : List It) : ∀ s : List It × Int, (∀ x ∈ more, Taken s.1 x) → (more.foldl mergeS s).1 = s.1 := by
  induction more with
  | nil => exact fun s _ => rfl
  | cons x more ih =>
    intro s h
    have e : (mergeS s x).1 = s.1 := by
      unfold mergeS
      split
      · rename_i hx
        rcases h x (by simp) hx with h' | h'
        · rw [if_pos h']
        · rw [if_neg (by simp [h'.1]), if_pos h']
      · rfl
    rw [List.foldl_cons, ih _ (fun y hy => by rw [e]; exact h y (by simp [hy])), e]
/-- MERGED ONCE MORE NOTHING CHANGES. -/
theorem merge_again (l more : List It) : mergeR (mergeR l more).1 more = mergeR l more := by
  have e : (mergeR (mergeR l more).1 more).1 = (mergeR l more).1 := foldl_again more _ (merge_taken l more)
  refine Prod.ext e ?_
  rw [merge_bad, merge_bad l more, e]

end Go.Proofs.Ytpdaanlppimbcaa
