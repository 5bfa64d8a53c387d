import Derived.Test.YtccfjidpdlfenaaDoorTOwn_concat
namespace Go.Proofs.YtccfjidpdlfenaaDoor
open Go.Am
set_option linter.unusedSimpArgs false
set_option linter.unusedVariables false
set_option maxRecDepth 100000
/-! Layer 4: tags. -/
@[go_sem] theorem e138 (a b : List UInt8) (h : a.length + b.length ≤ 1000000) : fn C 138 [] [.slice 1 (a.map byteRow), .slice 1 (b.map byteRow)] = some (.slice 1 ((sumB (a ++ b)).map byteRow), []) := by
  rw [fn_text Tryd.func138 rfl rfl Tryd.results138 fq138.1 rfl rfl (by kernel_rfl)]
  simp -implicitDefEqProofs -dsimp +contextual (maxSteps := 9999999) (disch := first | omega | simp only [go_sem] <;> omega | refine ib ?_; kernel_rfl) only [go_sem, seval, ↓reduceIte]

def keyB (k : List UInt8) : List UInt8 := (if 64 < k.length then sumB k else k) ++ List.replicate (64 - (if 64 < k.length then sumB k else k).length) 0
@[go_sem] theorem keyB_len (k : List UInt8) : (keyB k).length = 64 := by
  unfold keyB; split
  · simp [sumB_len]
  · simp; omega
def xorK (k : List UInt8) (y : UInt8) : List UInt8 := k.map (· ^^^ y)
@[go_sem] theorem xorK_len (k : List UInt8) (y : UInt8) : (xorK k y).length = k.length := by simp [xorK]
theorem xorK_take (k : List UInt8) (y : UInt8) (i : Nat) (h : i < k.length) : (xorK k y).take (i + 1) = (xorK k y).take i ++ [k[i] ^^^ y] := by
  rw [List.take_succ_eq_append_getElem (by rw [xorK_len]; exact h)]; simp [xorK]
def macB (k m : List UInt8) : List UInt8 := sumB (xorK (keyB k) 92 ++ sumB (xorK (keyB k) 54 ++ m))
@[go_sem] theorem macB_len (k m : List UInt8) : (macB k m).length = 32 := sumB_len _

theorem keyB_short (k : List UInt8) (h : ¬ 64 < k.length) : keyB k = k ++ List.replicate (64 - k.length) 0 := by simp [keyB, h]
theorem keyB_long (k : List UInt8) (h : 64 < k.length) : keyB k = sumB k ++ List.replicate 32 0 := by simp [keyB, h, sumB_len]
/-- A key, turned up to a place. -/
theorem turn_get (k : List UInt8) (y : UInt8) (i : Nat) (h : i < k.length) : ((xorK k y).take i ++ k.drop i)[i]'(by simp [xorK_len]; omega) = k[i] := by
  rw [List.getElem_append_right (by simp [xorK_len]; omega)]
  simp [xorK_len, show min i k.length = i by omega]
theorem turn_len (k : List UInt8) (y : UInt8) (i : Nat) : ((xorK k y).take i ++ k.drop i).length = k.length := by simp [xorK_len]; omega
theorem turn_set (k : List UInt8) (y : UInt8) (i : Nat) (h : i < k.length) : ((xorK k y).take i ++ k.drop i).set i (k[i] ^^^ y) = (xorK k y).take (i + 1) ++ k.drop (i + 1) := by
  rw [xorK_take k y i h, List.set_append_right _ _ (by simp [xorK_len]; omega)]
  simp only [List.length_take, xorK_len, show min i k.length = i by omega, Nat.sub_self]
  rw [List.drop_eq_getElem_cons h, List.set_cons_zero, List.append_assoc]; rfl

@[go_sem] theorem e158 (k : List UInt8) (h : k.length ≤ 1000000) : fn C 158 [] [.slice 1 (k.map byteRow)] = some (.usl 1 ((keyB k).map byteRow), []) := by
  rw [fn_text Tryd.func158 rfl rfl Tryd.results158 fq158.1 rfl rfl (by kernel_rfl)]
  by_cases h1 : 64 < k.length
  · simp -implicitDefEqProofs -dsimp +contextual (maxSteps := 9999999) (disch := first | omega | simp only [go_sem] <;> omega | refine ib ?_; kernel_rfl) only [go_sem, seval, ↓reduceIte, h1]
    rw [keyB_long k h1, List.map_append]; rfl
  · simp -implicitDefEqProofs -dsimp +contextual (maxSteps := 9999999) (disch := first | omega | simp only [go_sem] <;> omega | refine ib ?_; kernel_rfl) only [go_sem, seval, ↓reduceIte, h1]
    rw [keyB_short k h1, show (64 - (k.length : Int)).toNat = 64 - k.length by omega]

set_option maxHeartbeats 1000000 in
@[go_sem] theorem e122 (k : List UInt8) (h : k.length ≤ 1000000) : fn C 122 [] [.slice 1 (k.map byteRow)] = some (.usl 1 ((keyB k).map byteRow), []) := by
  rw [fn_text Tryd.func122 rfl rfl Tryd.results122 fq122.1 rfl rfl (by kernel_rfl)]
  have snoc : ∀ (l : List UInt8) (n : Nat), (l ++ List.replicate n 0).map byteRow ++ [[AVal.int IntKind.u8 0]] = (l ++ List.replicate (n + 1) 0).map byteRow := fun l n => by
    rw [List.replicate_succ', ← List.append_assoc, List.map_append (l₁ := l ++ List.replicate n 0)]; rfl
  by_cases h1 : 64 < k.length
  · simp -implicitDefEqProofs -dsimp +contextual (maxSteps := 9999999) (disch := first | omega | simp only [go_sem] <;> omega | refine ib ?_; kernel_rfl) only [go_sem, seval, ↓reduceIte, h1]
    refine (kLoop_rec (fun (i : Nat) f H => 32 + i ≤ 64 ∧ ∃ g, f 3 = .osl 111 g 0 (32 + i) ∧ H 111 = ⟨g, .live, 1, (sumB k ++ List.replicate i 0).map byteRow, false⟩) (fun i => 64 - i) (fun _ => some (.usl 1 ((keyB k).map byteRow), [])) ?_ 0 _ _ ⟨by omega, 1, rfl, by simp [Heap.set]⟩)
    rintro i f H ⟨hi, g, h3, hH⟩ ih
    by_cases hl : 32 + i < 64
    · simp -implicitDefEqProofs -dsimp +contextual (maxSteps := 9999999) (disch := first | omega | simp only [go_sem] <;> omega | refine ib ?_; kernel_rfl) only [go_sem, seval, ↓reduceIte, h3, hH, hl]
      exact ih (i + 1) _ _ ⟨by omega, g + 1, rfl, by rw [← snoc]; rfl⟩ (by omega)
    · simp -implicitDefEqProofs -dsimp +contextual (maxSteps := 9999999) (disch := first | omega | simp only [go_sem] <;> omega | refine ib ?_; kernel_rfl) only [go_sem, seval, ↓reduceIte, h3, hH, hl]
      rw [keyB_long k h1, show i = 32 by omega]
  · simp -implicitDefEqProofs -dsimp +contextual (maxSteps := 9999999) (disch := first | omega | simp only [go_sem] <;> omega | refine ib ?_; kernel_rfl) only [go_sem, seval, ↓reduceIte, h1]
    refine (kLoop_rec (fun (i : Nat) f H => k.length + i ≤ 64 ∧ ∃ g, f 3 = .osl 104 g 0 (k.length + i) ∧ H 104 = ⟨g, .live, 1, (k ++ List.replicate i 0).map byteRow, false⟩) (fun i => 64 - i) (fun _ => some (.usl 1 ((keyB k).map byteRow), [])) ?_ 0 _ _ ⟨by omega, 2, by simp [upd], by simp [Heap.set]⟩)
    rintro i f H ⟨hi, g, h3, hH⟩ ih
    by_cases hl : k.length + i < 64
    · simp -implicitDefEqProofs -dsimp +contextual (maxSteps := 9999999) (disch := first | omega | simp only [go_sem] <;> omega | refine ib ?_; kernel_rfl) only [go_sem, seval, ↓reduceIte, h3, hH, hl]
      exact ih (i + 1) _ _ ⟨by omega, g + 1, rfl, by rw [← snoc]; rfl⟩ (by omega)
    · simp -implicitDefEqProofs -dsimp +contextual (maxSteps := 9999999) (disch := first | omega | simp only [go_sem] <;> omega | refine ib ?_; kernel_rfl) only [go_sem, seval, ↓reduceIte, h3, hH, hl]
      rw [keyB_short k h1, show i = 64 - k.length by omega]

set_option maxHeartbeats 1000000 in
@[go_sem] theorem e137 (k : List UInt8) (y : UInt8) (h : k.length ≤ 1000000) : fn C 137 [] [.slice 1 (k.map byteRow), .int .u8 (y.toNat : Int)] = some (.slice 1 ((xorK (keyB k) y).map byteRow), []) := by
  rw [fn_text Tryd.func137 rfl rfl Tryd.results137 fq137.1 rfl rfl (by kernel_rfl)]
  simp -implicitDefEqProofs -dsimp +contextual (maxSteps := 9999999) (disch := first | omega | simp only [go_sem] <;> omega | refine ib ?_; kernel_rfl) only [go_sem, seval, ↓reduceIte]
  have hk := keyB_len k
  generalize keyB k = K at *
  refine (kLoop_rec (fun (i : Nat) f H => f 1 = .int .u8 (y.toNat : Int) ∧ f 5 = .osl 108 1 0 64 ∧ f 10 = .int .i64 64 ∧ f 11 = .int .i64 (i : Int) ∧ H 108 = ⟨1, .live, 1, ((xorK K y).take i ++ K.drop i).map byteRow, false⟩ ∧ i ≤ 64) (fun i => 64 - i) (fun _ => some (.slice 1 ((xorK K y).map byteRow), [])) ?_ 0 _ _ ⟨rfl, rfl, rfl, rfl, rfl, by omega⟩)
  rintro i f H ⟨h1, h5, h10, h11, hH, hi⟩ ih
  by_cases hl : i < 64
  · have hc := turn_get K y i (by omega)
    have hs := turn_set K y i (by omega)
    have hn := turn_len K y i
    obtain ⟨L, hL⟩ : ∃ L, L = (xorK K y).take i ++ K.drop i := ⟨_, rfl⟩
    simp only [← hL] at hH hc hs hn
    simp -implicitDefEqProofs -dsimp +contextual (maxSteps := 9999999) (disch := first | omega | simp only [go_sem] <;> omega | refine ib ?_; kernel_rfl) only [go_sem, seval, ↓reduceIte, h1, h5, h10, h11, hH, hl, hn, hk, hc]
    exact ih (i + 1) _ _ ⟨h1, h5, h10, rfl, by rw [← hs]; rfl, by omega⟩ (by omega)
  · obtain rfl : i = 64 := by omega
    rw [List.take_of_length_le (by simp [xorK_len, hk]), List.drop_of_length_le (by omega), List.append_nil] at hH
    simp -implicitDefEqProofs -dsimp +contextual (maxSteps := 9999999) (disch := first | omega | simp only [go_sem] <;> omega | refine ib ?_; kernel_rfl) only [go_sem, seval, ↓reduceIte, h1, h5, h10, h11, hH]

@[go_sem] theorem eTurn54 (k : List UInt8) (h : k.length ≤ 1000000) : fn C 137 [] [.slice 1 (k.map byteRow), .int .u8 54] = some (.slice 1 ((xorK (keyB k) 54).map byteRow), []) := e137 k 54 h
@[go_sem] theorem eTurn92 (k : List UInt8) (h : k.length ≤ 1000000) : fn C 137 [] [.slice 1 (k.map byteRow), .int .u8 92] = some (.slice 1 ((xorK (keyB k) 92).map byteRow), []) := e137 k 92 h
set_option maxHeartbeats 1000000 in
theorem e119 (k : List UInt8) (rs : List (List AVal)) (ps : List (List UInt8)) (hr : rs.map normRow = ps.map partRow) (ho : ones rs = true) (hc : rs.all clos = true) (hp : ps.length ≤ 900) (h : k.length ≤ 1000000) (hf : ps.flatten.length ≤ 500000) : fn C 119 [] [.slice 1 (k.map byteRow), .slice 1 rs] = some (.slice 1 ((macB k ps.flatten).map byteRow), []) := by
  rw [fn_text Tryd.func119 rfl rfl Tryd.results119 fq119.1 rfl rfl (by kernel_rfl)]
  have hrl : rs.length = ps.length := by have := congrArg List.length hr; simpa using this
  have hcc := concat_all (xorK (keyB k) 54) rs ps hr (by omega) (by rw [List.length_append, xorK_len, keyB_len]; omega)
  simp -implicitDefEqProofs -dsimp +contextual (maxSteps := 9999999) (disch := first | omega | simp only [go_sem] <;> omega | refine ib ?_; kernel_rfl) only [go_sem, seval, ↓reduceIte, hcc, ho, hc]
  rfl

@[go_sem] theorem e120 (k m : List UInt8) (h : k.length ≤ 1000000) (hf : m.length ≤ 500000) : fn C 120 [] [.slice 1 (k.map byteRow), .slice 1 (m.map byteRow)] = some (.slice 1 ((macB k m).map byteRow), []) := by
  rw [fn_text Tryd.func120 rfl rfl Tryd.results120 fq120.1 rfl rfl (by kernel_rfl)]
  have hc := e119 k [[.slice 1 (m.map byteRow)]] [m] rfl rfl (by simp only [go_sem]) (by simp) h (by simpa using hf)
  simp only [List.flatten_cons, List.flatten_nil, List.append_nil] at hc
  simp -implicitDefEqProofs -dsimp +contextual (maxSteps := 9999999) (disch := first | omega | simp only [go_sem] <;> omega | refine ib ?_; kernel_rfl) only [go_sem, seval, ↓reduceIte, hc]

set_option maxHeartbeats 1000000 in
@[go_sem] theorem e98 (k m : List UInt8) (h : k.length ≤ 1000000) (hf : m.length ≤ 500000) : fn C 98 [] [.slice 1 (k.map byteRow), .slice 1 (m.map byteRow)] = some (.slice 1 ((macB k m).map byteRow), []) := by
  rw [fn_text Tryd.func98 rfl rfl Tryd.results98 fq98.1 rfl rfl (by kernel_rfl)]
  simp -implicitDefEqProofs -dsimp +contextual (maxSteps := 9999999) (disch := first | omega | simp only [go_sem] <;> omega | refine ib ?_; kernel_rfl) only [go_sem, seval, ↓reduceIte]
  have hk := keyB_len k
  rw [macB]
  generalize keyB k = K at *
  have a54 := fun i (hi : i < K.length) => xorK_take K 54 i hi
  have a92 := fun i (hi : i < K.length) => xorK_take K 92 i hi
  have l54 := xorK_len K 54
  have l92 := xorK_len K 92
  refine (kLoop_rec (fun (i : Nat) f H => f 1 = .slice 1 (m.map byteRow) ∧ f 5 = .osl 110 1 0 64 ∧ f 8 = .int .i64 (i : Int) ∧ H 110 = ⟨1, .live, 1, K.map byteRow, false⟩ ∧ ((i = 0 ∧ f 6 = .sc (.slice none 0 0) ∧ f 7 = .sc (.slice none 0 0)) ∨ (∃ g g', f 6 = .osl 122 g 0 i ∧ f 7 = .osl 130 g' 0 i ∧ H 122 = ⟨g, .live, 1, ((xorK K 54).take i).map byteRow, false⟩ ∧ H 130 = ⟨g', .live, 1, ((xorK K 92).take i).map byteRow, false⟩)) ∧ i ≤ 64) (fun i => 64 - i) (fun _ => some (.slice 1 ((sumB (xorK K 92 ++ sumB (xorK K 54 ++ m))).map byteRow), [])) ?_ 0 _ _ ⟨rfl, rfl, rfl, rfl, .inl ⟨rfl, rfl, rfl⟩, by omega⟩)
  rintro i f H ⟨h1, h5, h8, hH, h67, hi⟩ ih
  by_cases hl : i < 64
  · have b54 := a54 i (by omega)
    have b92 := a92 i (by omega)
    rcases h67 with ⟨rfl, h6, h7⟩ | ⟨g, g', h6, h7, G6, G7⟩
    · simp -implicitDefEqProofs -dsimp +contextual (maxSteps := 9999999) (disch := first | omega | simp only [go_sem] <;> omega | refine ib ?_; kernel_rfl) only [go_sem, seval, ↓reduceIte, h1, h5, h6, h7, h8, hH, hl, hk]
      exact ih 1 _ _ ⟨h1, h5, rfl, hH, .inr ⟨_, _, rfl, rfl, by rw [b54]; rfl, by rw [b92]; rfl⟩, by omega⟩ (by omega)
    · simp -implicitDefEqProofs -dsimp +contextual (maxSteps := 9999999) (disch := first | omega | simp only [go_sem] <;> omega | refine ib ?_; kernel_rfl) only [go_sem, seval, ↓reduceIte, h1, h5, h6, h7, h8, hH, hl, hk, G6, G7, l54, l92]
      exact ih (i + 1) _ _ ⟨h1, h5, rfl, hH, .inr ⟨_, _, rfl, rfl, by rw [b54]; rfl, by rw [b92]; rfl⟩, by omega⟩ (by omega)
  · obtain rfl : i = 64 := by omega
    rcases h67 with ⟨h0, h6, h7⟩ | ⟨g, g', h6, h7, G6, G7⟩
    · omega
    · rw [List.take_of_length_le (by omega)] at G6 G7
      simp -implicitDefEqProofs -dsimp +contextual (maxSteps := 9999999) (disch := first | omega | simp only [go_sem] <;> omega | refine ib ?_; kernel_rfl) only [go_sem, seval, ↓reduceIte, h1, h5, h6, h7, h8, hH, hk, G6, G7, l54, l92]

end Go.Proofs.YtccfjidpdlfenaaDoor
namespace Go.Proofs.YtccfjidpdlfenaaDoor
open Go.Am
set_option linter.unusedSimpArgs false
set_option linter.unusedVariables false
set_option maxRecDepth 100000
/-! Layer 5: keys made of others. -/
def exp1 (key info : List UInt8) : List UInt8 := macB key (info ++ [1])
def exp2 (key info : List UInt8) : List UInt8 := macB key (exp1 key info ++ info ++ [2])
def exp64 (key info : List UInt8) : List UInt8 := exp1 key info ++ exp2 key info
@[go_sem] theorem exp1_len (k i : List UInt8) : (exp1 k i).length = 32 := macB_len _ _
@[go_sem] theorem exp2_len (k i : List UInt8) : (exp2 k i).length = 32 := macB_len _ _
@[go_sem] theorem exp64_len (k i : List UInt8) : (exp64 k i).length = 64 := by simp [exp64, exp1_len, exp2_len]

theorem exp_first (key info : List UInt8) (hk : key.length ≤ 100000) (hi : info.length ≤ 100000) : fn C 119 [] [.slice 1 (key.map byteRow), .slice 1 [[.sc (.slice none 0 0)], [.slice 1 (info.map byteRow)], [.slice 1 [[.int .u8 1]]]]] = some (.slice 1 ((exp1 key info).map byteRow), []) := by
  have h := e119 key [[.sc (.slice none 0 0)], [.slice 1 (info.map byteRow)], [.slice 1 [[.int .u8 1]]]] [[], info, [1]] rfl rfl (by simp only [go_sem]) (by simp) (by omega) (by simp; omega)
  simpa [exp1] using h
theorem exp_second (key info : List UInt8) (hk : key.length ≤ 100000) (hi : info.length ≤ 100000) : fn C 119 [] [.slice 1 (key.map byteRow), .slice 1 [[.slice 1 ((exp1 key info).map byteRow)], [.slice 1 (info.map byteRow)], [.slice 1 [[.int .u8 2]]]]] = some (.slice 1 ((exp2 key info).map byteRow), []) := by
  have h := e119 key [[.slice 1 ((exp1 key info).map byteRow)], [.slice 1 (info.map byteRow)], [.slice 1 [[.int .u8 2]]]] [exp1 key info, info, [2]] rfl rfl (by simp only [go_sem]) (by simp) (by omega) (by simp [exp1_len]; omega)
  simpa [exp2] using h

attribute [local irreducible] exp1 exp2

set_option maxHeartbeats 1000000 in
@[go_sem] theorem eExpand32 (key info : List UInt8) (hk : key.length ≤ 100000) (hi : info.length ≤ 100000) : fn C 93 [] [.slice 1 (key.map byteRow), .slice 1 (info.map byteRow), .int .i64 32] = some (.tup [.slice 1 ((exp1 key info).map byteRow), .int .i64 0], []) := by
  rw [fn_text Tryd.func93 rfl rfl Tryd.results93 fq93.1 rfl rfl (by kernel_rfl)]
  have h1 := exp_first key info hk hi
  have l1 := exp1_len key info
  simp -implicitDefEqProofs -dsimp +contextual (maxSteps := 9999999) (disch := first | omega | simp only [go_sem] <;> omega | refine ib ?_; kernel_rfl) only [go_sem, seval, ↓reduceIte, kLoop_eq, h1, l1]

set_option maxHeartbeats 1000000 in
@[go_sem] theorem eExpand64 (key info : List UInt8) (hk : key.length ≤ 100000) (hi : info.length ≤ 100000) : fn C 93 [] [.slice 1 (key.map byteRow), .slice 1 (info.map byteRow), .int .i64 64] = some (.tup [.slice 1 ((exp64 key info).map byteRow), .int .i64 0], []) := by
  rw [fn_text Tryd.func93 rfl rfl Tryd.results93 fq93.1 rfl rfl (by kernel_rfl)]
  have h1 := exp_first key info hk hi
  have h2 := exp_second key info hk hi
  have l1 := exp1_len key info
  have l2 := exp2_len key info
  simp -implicitDefEqProofs -dsimp +contextual (maxSteps := 9999999) (disch := first | omega | simp only [go_sem] <;> omega | refine ib ?_; kernel_rfl) only [go_sem, seval, ↓reduceIte, kLoop_eq, h1, h2, l1, l2]
  rfl

set_option maxHeartbeats 1000000 in
@[go_sem] theorem eRExpand32 (key info : List UInt8) (hk : key.length ≤ 100000) (hi : info.length ≤ 100000) : fn C 58 [] [.slice 1 (key.map byteRow), .slice 1 (info.map byteRow), .int .i64 32] = some (.tup [.slice 1 ((exp1 key info).map byteRow), .int .i64 0], []) := by
  rw [fn_text Tryd.func58 rfl rfl Tryd.results58 fq58.1 rfl rfl (by kernel_rfl)]
  have h1 : fn C 98 [] [.slice 1 (key.map byteRow), .slice 1 (info.map byteRow ++ [[.int .u8 1]])] = some (.slice 1 ((exp1 key info).map byteRow), []) := by
    have h := e98 key (info ++ [1]) (by omega) (by simp; omega)
    simpa [exp1, byteRow] using h
  have l1 := exp1_len key info
  simp -implicitDefEqProofs -dsimp +contextual (maxSteps := 9999999) (disch := first | omega | simp only [go_sem] <;> omega | refine ib ?_; kernel_rfl) only [go_sem, seval, ↓reduceIte, kLoop_eq, h1, l1]

set_option maxHeartbeats 1000000 in
@[go_sem] theorem eRExpand64 (key info : List UInt8) (hk : key.length ≤ 100000) (hi : info.length ≤ 100000) : fn C 58 [] [.slice 1 (key.map byteRow), .slice 1 (info.map byteRow), .int .i64 64] = some (.tup [.slice 1 ((exp64 key info).map byteRow), .int .i64 0], []) := by
  rw [fn_text Tryd.func58 rfl rfl Tryd.results58 fq58.1 rfl rfl (by kernel_rfl)]
  have h1 : fn C 98 [] [.slice 1 (key.map byteRow), .slice 1 (info.map byteRow ++ [[.int .u8 1]])] = some (.slice 1 ((exp1 key info).map byteRow), []) := by
    have h := e98 key (info ++ [1]) (by omega) (by simp; omega)
    simpa [exp1, byteRow] using h
  have h2 : fn C 98 [] [.slice 1 (key.map byteRow), .slice 1 ((exp1 key info ++ info).map byteRow ++ [[.int .u8 2]])] = some (.slice 1 ((exp2 key info).map byteRow), []) := by
    have h := e98 key (exp1 key info ++ info ++ [2]) (by omega) (by simp [exp1_len]; omega)
    simpa [exp2, byteRow] using h
  have l1 := exp1_len key info
  have l2 := exp2_len key info
  simp -implicitDefEqProofs -dsimp +contextual (maxSteps := 9999999) (disch := first | omega | simp only [go_sem] <;> omega | refine ib ?_; kernel_rfl) only [go_sem, seval, ↓reduceIte, kLoop_eq, h1, h2, l1, l2]
  rfl

def extB (salt secret : List UInt8) : List UInt8 := macB salt secret
@[go_sem] theorem extB_len (k i : List UInt8) : (extB k i).length = 32 := macB_len _ _

set_option maxHeartbeats 1000000 in
@[go_sem] theorem e94 (salt secret : List UInt8) (h0 : 1 ≤ salt.length) (hk : salt.length ≤ 100000) (hi : secret.length ≤ 100000) : fn C 94 [] [.slice 1 (salt.map byteRow), .slice 1 (secret.map byteRow)] = some (.slice 1 ((extB salt secret).map byteRow), []) := by
  rw [fn_text Tryd.func94 rfl rfl Tryd.results94 fq94.1 rfl rfl (by kernel_rfl)]
  simp -implicitDefEqProofs -dsimp +contextual (maxSteps := 9999999) (disch := first | omega | simp only [go_sem] <;> omega | refine ib ?_; kernel_rfl) only [go_sem, seval, ↓reduceIte, show ¬ salt.length = 0 by omega]
  rfl

set_option maxHeartbeats 1000000 in
@[go_sem] theorem e59 (salt secret : List UInt8) (h0 : 1 ≤ salt.length) (hk : salt.length ≤ 100000) (hi : secret.length ≤ 100000) : fn C 59 [] [.slice 1 (salt.map byteRow), .slice 1 (secret.map byteRow)] = some (.slice 1 ((extB salt secret).map byteRow), []) := by
  rw [fn_text Tryd.func59 rfl rfl Tryd.results59 fq59.1 rfl rfl (by kernel_rfl)]
  simp -implicitDefEqProofs -dsimp +contextual (maxSteps := 9999999) (disch := first | omega | simp only [go_sem] <;> omega | refine ib ?_; kernel_rfl) only [go_sem, seval, ↓reduceIte, show ¬ salt.length = 0 by omega]
  rfl

set_option maxHeartbeats 1000000 in
@[go_sem] theorem e53 (salt secret info : List UInt8) (h0 : 1 ≤ salt.length) (hk : salt.length ≤ 100000) (hs : secret.length ≤ 100000) (hi : info.length ≤ 100000) : fn C 53 [] [.slice 1 (salt.map byteRow), .slice 1 (secret.map byteRow), .slice 1 (info.map byteRow), .int .i64 64] = some (.tup [.slice 1 ((exp64 (extB salt secret) info).map byteRow), .int .i64 0], []) := by
  rw [fn_text Tryd.func53 rfl rfl Tryd.results53 fq53.1 rfl rfl (by kernel_rfl)]
  simp -implicitDefEqProofs -dsimp +contextual (maxSteps := 9999999) (disch := first | omega | simp only [go_sem] <;> omega | refine ib ?_; kernel_rfl) only [go_sem, seval, ↓reduceIte]

def titleC : List UInt8 := [99, 97, 114, 99, 97, 110, 101, 116, 32]
@[go_sem] theorem titleC_len : titleC.length = 9 := rfl
theorem titleC_fold : ([99, 97, 114, 99, 97, 110, 101, 116, 32] : List UInt8) = titleC := rfl
def namedB (key name : List UInt8) : List UInt8 := exp1 key (titleC ++ name)
@[go_sem] theorem namedB_len (k i : List UInt8) : (namedB k i).length = 32 := exp1_len _ _

set_option maxHeartbeats 1000000 in
@[go_sem] theorem e60 (key name : List UInt8) (hk : key.length ≤ 10000) (hi : name.length ≤ 10000) : fn C 60 [] [.slice 1 (key.map byteRow), .str name] = some (.slice 1 ((namedB key name).map byteRow), []) := by
  rw [fn_text Tryd.func60 rfl rfl Tryd.results60 fq60.1 rfl rfl (by kernel_rfl)]
  simp -implicitDefEqProofs -dsimp +contextual (maxSteps := 9999999) (disch := first | omega | simp only [go_sem] <;> omega | refine ib ?_; kernel_rfl) only [go_sem, seval, ↓reduceIte, titleC_fold]
  rfl

set_option maxHeartbeats 1000000 in
@[go_sem] theorem e62 (key name : List UInt8) (hk : key.length ≤ 10000) (hi : name.length ≤ 10000) : fn C 62 [] [.slice 1 (key.map byteRow), .str name] = some (.slice 1 ((namedB key name).map byteRow), []) := by
  rw [fn_text Tryd.func62 rfl rfl Tryd.results62 fq62.1 rfl rfl (by kernel_rfl)]
  simp -implicitDefEqProofs -dsimp +contextual (maxSteps := 9999999) (disch := first | omega | simp only [go_sem] <;> omega | refine ib ?_; kernel_rfl) only [go_sem, seval, ↓reduceIte, titleC_fold]
  rfl

end Go.Proofs.YtccfjidpdlfenaaDoor
namespace Go.Proofs.YtccfjidpdlfenaaDoor
open Go.Am
set_option linter.unusedSimpArgs false
set_option linter.unusedVariables false
set_option maxRecDepth 100000
/-! Layer 11: certificates as bytes. -/
structure En where
  name : List UInt8
  id : Nat
  fr : Int
  un : Int
  ix : Int
  tag : List UInt8
deriving DecidableEq
def En.cs (e : En) : List AVal := [.str e.name, .int .u64 (e.id : Int), .int .i64 e.fr, .int .i64 e.un, .int .i64 e.ix, .str e.tag]
@[go_sem] theorem En.cs_eq (e : En) : e.cs = [.str e.name, .int .u64 (e.id : Int), .int .i64 e.fr, .int .i64 e.un, .int .i64 e.ix, .str e.tag] := rfl
def u64V (n : Int) : Nat := (n % 18446744073709551616).toNat
theorem wrap_u64V (n : Int) : IntKind.u64.wrap n = (u64V n : Int) := by rw [IntKind.wrap_u64, u64V]; omega
theorem u64V_le (n : Int) : u64V n ≤ 18446744073709551615 := by rw [u64V]; omega
structure En.ok (e : En) : Prop where
  id : e.id ≤ 18446744073709551615
  f1 : -9223372036854775808 ≤ e.fr
  f2 : e.fr ≤ 9223372036854775807
  u1 : -9223372036854775808 ≤ e.un
  u2 : e.un ≤ 9223372036854775807
  i1 : -9223372036854775808 ≤ e.ix
  i2 : e.ix ≤ 9223372036854775807
def bodyB (e : En) : List UInt8 := textB e.name ++ beN 8 e.id ++ beN 4 (u64V e.fr) ++ beN 4 (u64V e.un) ++ beN 2 (u64V e.ix)
@[go_sem] theorem bodyB_len (e : En) : (bodyB e).length = e.name.length + 20 := by simp [bodyB, beN_len, textB_len]
def entB (e : En) : List UInt8 := bodyB e ++ e.tag
@[go_sem] theorem entB_len (e : En) : (entB e).length = e.name.length + 20 + e.tag.length := by simp [entB, bodyB_len]

set_option maxHeartbeats 1000000 in
@[go_sem] theorem e121 (e : En) (h : e.ok) (hn : e.name.length ≤ 60000) : fn C 121 [] [.agg [.str e.name, .int .u64 (e.id : Int), .int .i64 e.fr, .int .i64 e.un, .int .i64 e.ix, .str e.tag]] = some (.usl 1 ((bodyB e).map byteRow), []) := by
  rw [fn_text Tryd.func121 rfl rfl Tryd.results121 fq121.1 rfl rfl (by kernel_rfl)]
  have h1 := u64V_le e.fr; have h2 := u64V_le e.un; have h3 := u64V_le e.ix
  have h4 := h.id
  simp -implicitDefEqProofs -dsimp +contextual (maxSteps := 9999999) (disch := first | omega | simp only [go_sem] <;> omega | refine ib ?_; kernel_rfl) only [go_sem, seval, ↓reduceIte, wrap_u64V e.fr, wrap_u64V e.un, wrap_u64V e.ix]
  rfl
set_option maxHeartbeats 1000000 in
@[go_sem] theorem e96 (e : En) (h : e.ok) (hn : e.name.length ≤ 60000) (ht : e.tag.length ≤ 60000) : fn C 96 [] [.agg [.str e.name, .int .u64 (e.id : Int), .int .i64 e.fr, .int .i64 e.un, .int .i64 e.ix, .str e.tag]] = some (.slice 1 ((entB e).map byteRow), []) := by
  rw [fn_text Tryd.func96 rfl rfl Tryd.results96 fq96.1 rfl rfl (by kernel_rfl)]
  simp -implicitDefEqProofs -dsimp +contextual (maxSteps := 9999999) (disch := first | omega | simp only [go_sem] <;> omega | refine ib ?_; kernel_rfl) only [go_sem, seval, ↓reduceIte, e121 e h hn]
  rfl
set_option maxHeartbeats 1000000 in
@[go_sem] theorem e97 (e : En) (h : e.ok) (hn : e.name.length ≤ 60000) : fn C 97 [] [.agg [.str e.name, .int .u64 (e.id : Int), .int .i64 e.fr, .int .i64 e.un, .int .i64 e.ix, .str e.tag]] = some (.usl 1 ((bodyB e).map byteRow), []) := by
  rw [fn_text Tryd.func97 rfl rfl Tryd.results97 fq97.1 rfl rfl (by kernel_rfl)]
  have h1 := u64V_le e.fr; have h2 := u64V_le e.un; have h3 := u64V_le e.ix
  have h4 := h.id
  simp -implicitDefEqProofs -dsimp +contextual (maxSteps := 9999999) (disch := first | omega | simp only [go_sem] <;> omega | refine ib ?_; kernel_rfl) only [go_sem, seval, ↓reduceIte, wrap_u64V e.fr, wrap_u64V e.un, wrap_u64V e.ix]
  rfl
set_option maxHeartbeats 1000000 in
@[go_sem] theorem e57 (e : En) (h : e.ok) (hn : e.name.length ≤ 60000) (ht : e.tag.length ≤ 60000) : fn C 57 [] [.agg [.str e.name, .int .u64 (e.id : Int), .int .i64 e.fr, .int .i64 e.un, .int .i64 e.ix, .str e.tag]] = some (.slice 1 ((entB e).map byteRow), []) := by
  rw [fn_text Tryd.func57 rfl rfl Tryd.results57 fq57.1 rfl rfl (by kernel_rfl)]
  simp -implicitDefEqProofs -dsimp +contextual (maxSteps := 9999999) (disch := first | omega | simp only [go_sem] <;> omega | refine ib ?_; kernel_rfl) only [go_sem, seval, ↓reduceIte, e97 e h hn]
  rfl

end Go.Proofs.YtccfjidpdlfenaaDoor
namespace Go.Proofs.YtccfjidpdlfenaaDoor
open Go.Am
set_option linter.unusedSimpArgs false
set_option linter.unusedVariables false
set_option maxRecDepth 100000
/-! Layer 1: readers. -/
structure Rd where
  rest : List UInt8
  met : Int
def rawS (s : Rd) (n : Int) : List UInt8 × Rd :=
  if s.met = 0 then
    if n < 0 then ([], ⟨s.rest, 2⟩)
    else if n ≤ (s.rest.length : Int) then (s.rest.take n.toNat, ⟨s.rest.drop n.toNat, 0⟩)
    else ([], ⟨s.rest, 10⟩)
  else ([], s)
def numS (s : Rd) (n : Nat) : Nat × Rd := (beV (rawS s (n : Int)).1, (rawS s (n : Int)).2)
def textS (s : Rd) (most : Int) : List UInt8 × Rd :=
  if (numS s 2).2.met = 0 ∧ most < ((numS s 2).1 : Int) then ([], ⟨(numS s 2).2.rest, 3⟩) else rawS (numS s 2).2 ((numS s 2).1 : Int)
def openS (l : List UInt8) : Rd := ⟨l, 0⟩
def endS (s : Rd) : Int := if s.met = 0 ∧ s.rest ≠ [] then 12 else s.met
def leftS (s : Rd) : Nat := if s.met = 0 then s.rest.length else 0
theorem rawS_suf (s : Rd) (n : Int) : (rawS s n).2.rest = s.rest.drop (rawS s n).1.length := by
  unfold rawS
  split
  · split
    · rfl
    · split
      · simp only [List.length_take]; congr 1; omega
      · rfl
  · rfl
theorem rawS_le1 (s : Rd) (n : Int) : (rawS s n).1.length ≤ s.rest.length := by
  unfold rawS
  split
  · split
    · simp
    · split
      · simp [List.length_take]; omega
      · simp
  · simp
theorem rawS_len (s : Rd) (n : Int) : (rawS s n).1.length + (rawS s n).2.rest.length = s.rest.length := by
  have h := rawS_le1 s n
  rw [rawS_suf, List.length_drop]; omega
theorem rawS_most (s : Rd) (n : Nat) : (rawS s (n : Int)).1.length ≤ n := by
  unfold rawS
  split
  · split
    · simp
    · split
      · simp [List.length_take]; omega
      · simp
  · simp
theorem beV_le (l : List UInt8) (k : Nat) (h : l.length ≤ k) : beV l < 256 ^ k := Nat.lt_of_lt_of_le (beV_lt l) (Nat.pow_le_pow_right (by decide) h)
theorem beV_2 (l : List UInt8) (h : l.length ≤ 2) : beV l ≤ 65535 := by have := beV_le l 2 h; omega
theorem beV_8 (l : List UInt8) (h : l.length ≤ 8) : beV l ≤ 18446744073709551615 := by have := beV_le l 8 h; omega
theorem numS_lt (s : Rd) (k : Nat) : (numS s k).1 < 256 ^ k := beV_le _ _ (rawS_most s k)
/-- A reader of bytes: what is left is their end. -/
structure RdOf (B : List UInt8) (s : Rd) : Prop where
  le : s.rest.length ≤ B.length
  eq : B.drop (B.length - s.rest.length) = s.rest
def atS (B : List UInt8) (s : Rd) : Nat := B.length - s.rest.length
@[go_sem] theorem RdOf_open (B : List UInt8) : RdOf B (openS B) := ⟨Nat.le_refl _, by simp [openS]⟩
theorem RdOf.suf {B : List UInt8} {s t : Rd} (h : RdOf B s) (k : Nat) (hk : k ≤ s.rest.length) (e : t.rest = s.rest.drop k) : RdOf B t := by
  have h1 := h.le
  refine ⟨by rw [e, List.length_drop]; omega, ?_⟩
  rw [e, List.length_drop]
  conv => rhs; rw [← h.eq, List.drop_drop]
  congr 1; omega
@[go_sem] theorem RdOf_raw {B : List UInt8} {s : Rd} (n : Int) (h : RdOf B s) : RdOf B (rawS s n).2 := h.suf _ (rawS_le1 s n) (rawS_suf s n)
@[go_sem] theorem RdOf_num {B : List UInt8} {s : Rd} (n : Nat) (h : RdOf B s) : RdOf B (numS s n).2 := RdOf_raw (n : Int) h
@[go_sem] theorem RdOf_text {B : List UInt8} {s : Rd} (n : Int) (h : RdOf B s) : RdOf B (textS s n).2 := by
  unfold textS
  split
  · exact (RdOf_num 2 h).suf 0 (Nat.zero_le _) (by simp)
  · exact RdOf_raw _ (RdOf_num 2 h)
theorem rest_le (s : Rd) (n : Int) : (rawS s n).2.rest.length ≤ s.rest.length := by have := rawS_len s n; omega
theorem textS_le (s : Rd) (n : Int) : (textS s n).2.rest.length ≤ s.rest.length := by
  have h1 := rest_le s 2
  unfold textS
  split
  · exact h1
  · exact Nat.le_trans (rest_le _ _) h1
theorem textS_le1 (s : Rd) (n : Int) : (textS s n).1.length ≤ s.rest.length := by
  have h1 := rest_le s 2
  unfold textS
  split
  · simp
  · exact Nat.le_trans (rawS_le1 _ _) h1

@[go_sem] theorem e110 (r : List UInt8) (m : Int) : fn C 110 [] [.iptr [.str r, .int .i64 m]] = some (.bool (!decide (m = 0)), []) := by
  rw [fn_text Tryd.func110 rfl rfl Tryd.results110 fq110.1 rfl rfl (by kernel_rfl)]
  simp -implicitDefEqProofs -dsimp +contextual (maxSteps := 9999999) (disch := first | omega | simp only [go_sem] <;> omega | refine ib ?_; kernel_rfl) only [go_sem, seval, ↓reduceIte]

@[go_sem] theorem e111 (r : List UInt8) (m e : Int) : fn C 111 [] [.uptr [.str r, .int .i64 m], .int .i64 e] = some (.str [], [.uptr [.str r, .int .i64 e]]) := by
  rw [fn_text Tryd.func111 rfl rfl Tryd.results111 fq111.1 rfl rfl (by kernel_rfl)]
  simp -implicitDefEqProofs -dsimp +contextual (maxSteps := 9999999) (disch := first | omega | simp only [go_sem] <;> omega | refine ib ?_; kernel_rfl) only [go_sem, seval, ↓reduceIte]

@[go_sem] theorem e73 (l : List UInt8) (hl : l.length ≤ 1000000000) : fn C 73 [] [.slice 1 (l.map byteRow)] = some (.uptr [.str (openS l).rest, .int .i64 (openS l).met], []) := by
  rw [fn_text Tryd.func73 rfl rfl Tryd.results73 fq73.1 rfl rfl (by kernel_rfl)]
  simp -implicitDefEqProofs -dsimp +contextual (maxSteps := 9999999) (disch := first | omega | simp only [go_sem] <;> omega | refine ib ?_; kernel_rfl) only [go_sem, seval, ↓reduceIte]
  rfl

set_option maxHeartbeats 1000000 in
theorem packRaw (r : List UInt8) (m n : Int) (hl : r.length ≤ 1000000000) : fn C 112 [] [.uptr [.str r, .int .i64 m], .int .i64 n] = some (.str (rawS ⟨r, m⟩ n).1, [.uptr [.str (rawS ⟨r, m⟩ n).2.rest, .int .i64 (rawS ⟨r, m⟩ n).2.met]]) := by
  rw [fn_text Tryd.func112 rfl rfl Tryd.results112 fq112.1 rfl rfl (by kernel_rfl)]
  by_cases hm : m = 0
  · by_cases hn : n < 0
    · simp -implicitDefEqProofs -dsimp +contextual (maxSteps := 9999999) (disch := first | omega | simp only [go_sem] <;> omega | refine ib ?_; kernel_rfl) only [go_sem, seval, ↓reduceIte, hm, hn]
      simp [rawS, hn]
    · obtain ⟨k, rfl⟩ := Int.eq_ofNat_of_zero_le (show 0 ≤ n by omega)
      by_cases hk : r.length < k
      · simp -implicitDefEqProofs -dsimp +contextual (maxSteps := 9999999) (disch := first | omega | simp only [go_sem] <;> omega | refine ib ?_; kernel_rfl) only [go_sem, seval, ↓reduceIte, hm, hn, hk]
        simp [rawS, show ¬ k ≤ r.length by omega, show ¬ (k : Int) < 0 by omega]
      · simp -implicitDefEqProofs -dsimp +contextual (maxSteps := 9999999) (disch := first | omega | simp only [go_sem] <;> omega | refine ib ?_; kernel_rfl) only [go_sem, seval, ↓reduceIte, hm, hn, hk]
        simp [rawS, show k ≤ r.length by omega, show ¬ (k : Int) < 0 by omega]
  · simp -implicitDefEqProofs -dsimp +contextual (maxSteps := 9999999) (disch := first | omega | simp only [go_sem] <;> omega | refine ib ?_; kernel_rfl) only [go_sem, seval, ↓reduceIte, hm]
    simp [rawS, hm]

@[go_sem] theorem e112 (s : Rd) (n : Int) (hl : s.rest.length ≤ 1000000000) : fn C 112 [] [.uptr [.str s.rest, .int .i64 s.met], .int .i64 n] = some (.str (rawS s n).1, [.uptr [.str (rawS s n).2.rest, .int .i64 (rawS s n).2.met]]) := packRaw s.rest s.met n hl

theorem beV_step (l : List UInt8) (i : Nat) (h : i < l.length) (h8 : l.length ≤ 8) : beV (l.take i) < 72057594037927936 := by
  have h1 := beV_le (l.take i) 7 (by simp; omega)
  omega

set_option maxHeartbeats 2000000 in
theorem packRNum (s : Rd) (n : Nat) (h1 : 1 ≤ n) (h8 : n ≤ 8) (hl : s.rest.length ≤ 1000000000) : fn C 74 [] [.uptr [.str s.rest, .int .i64 s.met], .int .i64 (n : Int)] = some (.int .u64 ((numS s n).1 : Int), [.uptr [.str (numS s n).2.rest, .int .i64 (numS s n).2.met]]) := by
  rw [fn_text Tryd.func74 rfl rfl Tryd.results74 fq74.1 rfl rfl (by kernel_rfl)]
  have hb := rawS_most s n
  rw [numS]
  have hr := e112 s (n : Int) hl
  obtain ⟨r, m⟩ := s
  simp only at hr
  generalize rawS ⟨r, m⟩ (n : Int) = q at *
  obtain ⟨l, ⟨r', m'⟩⟩ := q
  simp only at hb hr
  rcases Decidable.em (m = 0) with rfl | hm
  all_goals
    first | simp -implicitDefEqProofs -dsimp +contextual (maxSteps := 9999999) (disch := first | omega | simp only [go_sem] <;> omega | refine ib ?_; kernel_rfl) only [go_sem, seval, ↓reduceIte, hm, hr, show l.length ≤ 9223372036854775807 by omega] | simp -implicitDefEqProofs -dsimp +contextual (maxSteps := 9999999) (disch := first | omega | simp only [go_sem] <;> omega | refine ib ?_; kernel_rfl) only [go_sem, seval, ↓reduceIte, hr, show ¬ n < 1 by omega, show ¬ 8 < n by omega, show l.length ≤ 9223372036854775807 by omega]
    refine (kLoop_rec (fun (i : Nat) f H => f 0 = .ptr 1 1 0 0 ∧ f 5 = .int .u64 ((beV (l.take i) : Nat) : Int) ∧ f 24 = .osl 124 1 0 l.length ∧ f 25 = .int .i64 (l.length : Int) ∧ f 26 = .int .i64 (i : Int) ∧ H 1 = ⟨1, .live, 2, [[.str r', .int .i64 m']], false⟩ ∧ H 124 = ⟨1, .live, 1, l.map byteRow, false⟩ ∧ i ≤ l.length) (fun i => l.length - i) (fun _ => some (.int .u64 ((beV l : Nat) : Int), [.uptr [.str r', .int .i64 m']])) ?_ 0 _ _ ?_)
    rotate_left
    · refine ⟨rfl, rfl, rfl, rfl, rfl, ?_, ?_, by omega⟩ <;> simp [Heap.set]
    rintro i f H ⟨f0, f5, f24, f25, f26, H1, H2, hi⟩ ih
    by_cases hl : i < l.length
    · have b1 := beV_step l i hl (by omega)
      have b2 := u8_lt l[i]
      have e1 := u64_shl8 E.P 23 .u64 _ b1
      have e2 := u64_or8 E.P 23 (beV (l.take i)) l[i].toUInt64.toNat (by omega) (by rw [UInt8.toNat_toUInt64]; exact b2)
      rw [show beV (l.take i) * 256 + l[i].toUInt64.toNat = beV (l.take (i + 1)) by rw [UInt8.toNat_toUInt64, beV_take l i hl]] at e2
      simp -implicitDefEqProofs -dsimp +contextual (maxSteps := 9999999) (disch := first | omega | simp only [go_sem] <;> omega | refine ib ?_; kernel_rfl) only [go_sem, seval, ↓reduceIte, f0, f5, f24, f25, f26, H1, H2, hl, e1, e2]
      refine ih (i + 1) _ _ ?_ (by omega)
      exact ⟨f0, rfl, f24, f25, rfl, H1, H2, by omega⟩
    · obtain rfl : i = l.length := by omega
      rw [List.take_length] at f5
      simp -implicitDefEqProofs -dsimp +contextual (maxSteps := 9999999) (disch := first | omega | simp only [go_sem] <;> omega | refine ib ?_; kernel_rfl) only [go_sem, seval, ↓reduceIte, f0, f5, f24, f25, f26, H1, H2]

@[go_sem] theorem e76 (l : List UInt8) (hl : l.length ≤ 1000000000) : fn C 76 [] [.slice 1 (l.map byteRow)] = some (.uptr [.slice 1 (l.map byteRow), .int .i64 ((atS l (openS l) : Nat) : Int), .int .i64 (openS l).met], []) := by
  rw [fn_text Tryd.func76 rfl rfl Tryd.results76 fq76.1 rfl rfl (by kernel_rfl)]
  simp -implicitDefEqProofs -dsimp +contextual (maxSteps := 9999999) (disch := first | omega | simp only [go_sem] <;> omega | refine ib ?_; kernel_rfl) only [go_sem, seval, ↓reduceIte]
  simp [atS, openS]

set_option maxHeartbeats 1000000 in
theorem refRaw (B : List UInt8) (a : Nat) (m n : Int) (ha : a ≤ B.length) (hl : B.length ≤ 1000000000) : fn C 113 [] [.uptr [.slice 1 (B.map byteRow), .int .i64 (a : Int), .int .i64 m], .int .i64 n] = some (.str (rawS ⟨B.drop a, m⟩ n).1, [.uptr [.slice 1 (B.map byteRow), .int .i64 ((a + (rawS ⟨B.drop a, m⟩ n).1.length : Nat) : Int), .int .i64 (rawS ⟨B.drop a, m⟩ n).2.met]]) := by
  rw [fn_text Tryd.func113 rfl rfl Tryd.results113 fq113.1 rfl rfl (by kernel_rfl)]
  by_cases hm : m = 0
  · by_cases hn : n < 0
    · simp -implicitDefEqProofs -dsimp +contextual (maxSteps := 9999999) (disch := first | omega | simp only [go_sem] <;> omega | refine ib ?_; kernel_rfl) only [go_sem, seval, ↓reduceIte, hm, hn]
      simp [rawS, hn]
    · obtain ⟨k, rfl⟩ := Int.eq_ofNat_of_zero_le (show 0 ≤ n by omega)
      by_cases hk : (B.length : Int) - a < k
      · simp -implicitDefEqProofs -dsimp +contextual (maxSteps := 9999999) (disch := first | omega | simp only [go_sem] <;> omega | refine ib ?_; kernel_rfl) only [go_sem, seval, ↓reduceIte, hm, hn, hk]
        simp [rawS, show ¬ k ≤ B.length - a by omega, show ¬ (k : Int) < 0 by omega]
      · simp -implicitDefEqProofs -dsimp +contextual (maxSteps := 9999999) (disch := first | omega | simp only [go_sem] <;> omega | refine ib ?_; kernel_rfl) only [go_sem, seval, ↓reduceIte, hm, hn, hk]
        simp [rawS, show k ≤ B.length - a by omega, show ¬ (k : Int) < 0 by omega]
  · simp -implicitDefEqProofs -dsimp +contextual (maxSteps := 9999999) (disch := first | omega | simp only [go_sem] <;> omega | refine ib ?_; kernel_rfl) only [go_sem, seval, ↓reduceIte, hm]
    simp [rawS, hm]
theorem atS_suf {B : List UInt8} {s : Rd} (h : RdOf B s) (n : Int) : atS B (rawS s n).2 = atS B s + (rawS s n).1.length := by
  have h1 := h.le
  have h2 := rawS_len s n
  unfold atS; omega

@[go_sem] theorem e113 (B : List UInt8) (s : Rd) (n : Int) (h : RdOf B s) (hl : B.length ≤ 1000000000) : fn C 113 [] [.uptr [.slice 1 (B.map byteRow), .int .i64 ((atS B s : Nat) : Int), .int .i64 s.met], .int .i64 n] = some (.str (rawS s n).1, [.uptr [.slice 1 (B.map byteRow), .int .i64 ((atS B (rawS s n).2 : Nat) : Int), .int .i64 (rawS s n).2.met]]) := by
  have e := refRaw B (atS B s) s.met n (by unfold atS; omega) hl
  rw [show (⟨B.drop (atS B s), s.met⟩ : Rd) = s by rw [atS, h.eq]] at e
  rw [e, atS_suf h]

set_option maxHeartbeats 2000000 in
theorem refRNum (B : List UInt8) (s : Rd) (n : Nat) (h1 : 1 ≤ n) (h8 : n ≤ 8) (h : RdOf B s) (hl : B.length ≤ 1000000000) : fn C 77 [] [.uptr [.slice 1 (B.map byteRow), .int .i64 ((atS B s : Nat) : Int), .int .i64 s.met], .int .i64 (n : Int)] = some (.int .u64 ((numS s n).1 : Int), [.uptr [.slice 1 (B.map byteRow), .int .i64 ((atS B (numS s n).2 : Nat) : Int), .int .i64 (numS s n).2.met]]) := by
  rw [fn_text Tryd.func77 rfl rfl Tryd.results77 fq77.1 rfl rfl (by kernel_rfl)]
  have hb := rawS_most s n
  rw [numS]
  have hr := e113 B s (n : Int) h hl
  have ha : atS B s ≤ B.length := by unfold atS; omega
  generalize atS B s = a at *
  obtain ⟨r, m⟩ := s
  simp only at hr
  have ha2 : atS B (rawS ⟨r, m⟩ (n : Int)).2 ≤ B.length := by unfold atS; omega
  generalize atS B (rawS ⟨r, m⟩ (n : Int)).2 = a2 at *
  generalize rawS ⟨r, m⟩ (n : Int) = q at *
  obtain ⟨l, ⟨r', m'⟩⟩ := q
  simp only at hb hr
  rcases Decidable.em (m = 0) with rfl | hm
  all_goals
    first | simp -implicitDefEqProofs -dsimp +contextual (maxSteps := 9999999) (disch := first | omega | simp only [go_sem] <;> omega | refine ib ?_; kernel_rfl) only [go_sem, seval, ↓reduceIte, hm, hr, show l.length ≤ 9223372036854775807 by omega] | simp -implicitDefEqProofs -dsimp +contextual (maxSteps := 9999999) (disch := first | omega | simp only [go_sem] <;> omega | refine ib ?_; kernel_rfl) only [go_sem, seval, ↓reduceIte, hr, show ¬ n < 1 by omega, show ¬ 8 < n by omega, show l.length ≤ 9223372036854775807 by omega]
    refine (kLoop_rec (fun (i : Nat) f H => f 0 = .ptr 1 1 0 0 ∧ f 5 = .str l ∧ f 6 = .int .u64 ((beV (l.take i) : Nat) : Int) ∧ f 7 = .int .i64 (i : Int) ∧ H 1 = ⟨1, .live, 3, [[.slice 1 (B.map byteRow), .int .i64 (a2 : Int), .int .i64 m']], false⟩ ∧ i ≤ l.length) (fun i => l.length - i) (fun _ => some (.int .u64 ((beV l : Nat) : Int), [.uptr [.slice 1 (B.map byteRow), .int .i64 (a2 : Int), .int .i64 m']])) ?_ 0 _ _ ?_)
    rotate_left
    · refine ⟨rfl, rfl, rfl, rfl, ?_, by omega⟩; simp [Heap.set]
    rintro i f H ⟨f0, f5, f6, f7, H1, hi⟩ ih
    by_cases hl : i < l.length
    · have b1 := beV_step l i hl (by omega)
      have b2 := u8_lt l[i]
      have e2 := beV_take l i hl
      have b3 : beV (l.take i) * 256 + l[i].toNat ≤ 18446744073709551615 := by omega
      have hw : IntKind.u64.wrap ((beV (l.take i) * 256 + l[i].toUInt64.toNat : Nat) : Int) = ((beV (l.take (i + 1)) : Nat) : Int) := by
        rw [e2, UInt8.toNat_toUInt64]; exact wrap_u64_id (by omega) (by omega)
      simp -implicitDefEqProofs -dsimp +contextual (maxSteps := 9999999) (disch := first | omega | simp only [go_sem] <;> omega | refine ib ?_; kernel_rfl) only [go_sem, seval, ↓reduceIte, f0, f5, f6, f7, H1, hl, hw]
      refine ih (i + 1) _ _ ?_ (by omega)
      exact ⟨f0, f5, rfl, rfl, H1, by omega⟩
    · obtain rfl : i = l.length := by omega
      rw [List.take_length] at f6
      simp -implicitDefEqProofs -dsimp +contextual (maxSteps := 9999999) (disch := first | omega | simp only [go_sem] <;> omega | refine ib ?_; kernel_rfl) only [go_sem, seval, ↓reduceIte, f0, f5, f6, f7, H1]

@[go_sem] theorem packRNum_lit (s : Rd) (n : Nat) (h1 : 1 ≤ OfNat.ofNat n) (h8 : OfNat.ofNat n ≤ 8) (hl : s.rest.length ≤ 1000000000) : fn C 74 [] [.uptr [.str s.rest, .int .i64 s.met], .int .i64 (no_index (OfNat.ofNat n : Int))] = some (.int .u64 ((numS s (OfNat.ofNat n)).1 : Int), [.uptr [.str (numS s (OfNat.ofNat n)).2.rest, .int .i64 (numS s (OfNat.ofNat n)).2.met]]) := packRNum s (OfNat.ofNat n) h1 h8 hl
@[go_sem] theorem refRNum_lit (B : List UInt8) (s : Rd) (n : Nat) (h1 : 1 ≤ OfNat.ofNat n) (h8 : OfNat.ofNat n ≤ 8) (h : RdOf B s) (hl : B.length ≤ 1000000000) : fn C 77 [] [.uptr [.slice 1 (B.map byteRow), .int .i64 ((atS B s : Nat) : Int), .int .i64 s.met], .int .i64 (no_index (OfNat.ofNat n : Int))] = some (.int .u64 ((numS s (OfNat.ofNat n)).1 : Int), [.uptr [.slice 1 (B.map byteRow), .int .i64 ((atS B (numS s (OfNat.ofNat n)).2 : Nat) : Int), .int .i64 (numS s (OfNat.ofNat n)).2.met]]) := refRNum B s (OfNat.ofNat n) h1 h8 h hl
theorem numS_rest (s : Rd) (n : Nat) : (numS s n).2.rest.length ≤ s.rest.length := rest_le s n
theorem RdOf.len {B : List UInt8} {s : Rd} (h : RdOf B s) : atS B s + s.rest.length = B.length := by have := h.le; unfold atS; omega

theorem numS_ok (l : List UInt8) (n : Nat) (h : n ≤ l.length) : numS ⟨l, 0⟩ n = (beV (l.take n), ⟨l.drop n, 0⟩) := by
  simp [numS, rawS, h, show ¬ (n : Int) < 0 by omega]
theorem numS_2 (s : Rd) : (numS s 2).1 ≤ 65535 := by have := numS_lt s 2; omega

set_option maxHeartbeats 2000000 in
@[go_sem] theorem e103 (s : Rd) (k : Int) (hl : s.rest.length ≤ 1000000000) : fn C 103 [] [.uptr [.str s.rest, .int .i64 s.met], .int .i64 k] = some (.str (textS s k).1, [.uptr [.str (textS s k).2.rest, .int .i64 (textS s k).2.met]]) := by
  rw [fn_text Tryd.func103 rfl rfl Tryd.results103 fq103.1 rfl rfl (by kernel_rfl)]
  have h3 := numS_rest s 2
  have h5 := numS_2 s
  rw [textS]
  by_cases hm : (numS s 2).2.met = 0
  · by_cases hk : k < ((numS s 2).1 : Int)
    · simp -implicitDefEqProofs -dsimp +contextual (maxSteps := 9999999) (disch := first | omega | simp only [go_sem] <;> omega | refine ib ?_; kernel_rfl) only [go_sem, seval, ↓reduceIte, hm, hk]
    · have h4 := e112 (numS s 2).2 ((numS s 2).1 : Int) (by omega)
      rw [hm] at h4
      simp -implicitDefEqProofs -dsimp +contextual (maxSteps := 9999999) (disch := first | omega | simp only [go_sem] <;> omega | refine ib ?_; kernel_rfl) only [go_sem, seval, ↓reduceIte, hm, hk, h4]
  · simp -implicitDefEqProofs -dsimp +contextual (maxSteps := 9999999) (disch := first | omega | simp only [go_sem] <;> omega | refine ib ?_; kernel_rfl) only [go_sem, seval, ↓reduceIte, hm]

@[go_sem] theorem e105 (s : Rd) (hl : s.rest.length ≤ 1000000000) : fn C 105 [] [.iptr [.str s.rest, .int .i64 s.met]] = some (.int .i64 ((leftS s : Nat) : Int), []) := by
  rw [fn_text Tryd.func105 rfl rfl Tryd.results105 fq105.1 rfl rfl (by kernel_rfl)]
  by_cases hm : s.met = 0
  · simp -implicitDefEqProofs -dsimp +contextual (maxSteps := 9999999) (disch := first | omega | simp only [go_sem] <;> omega | refine ib ?_; kernel_rfl) only [go_sem, seval, ↓reduceIte, hm]
    simp [leftS, hm]
  · simp -implicitDefEqProofs -dsimp +contextual (maxSteps := 9999999) (disch := first | omega | simp only [go_sem] <;> omega | refine ib ?_; kernel_rfl) only [go_sem, seval, ↓reduceIte, hm]
    simp [leftS, hm]

@[go_sem] theorem e104 (s : Rd) (hl : s.rest.length ≤ 1000000000) : fn C 104 [] [.iptr [.str s.rest, .int .i64 s.met]] = some (.int .i64 (endS s), []) := by
  rw [fn_text Tryd.func104 rfl rfl Tryd.results104 fq104.1 rfl rfl (by kernel_rfl)]
  by_cases hm : s.met = 0
  · by_cases hr : s.rest = []
    · simp -implicitDefEqProofs -dsimp +contextual (maxSteps := 9999999) (disch := first | omega | simp only [go_sem] <;> omega | refine ib ?_; kernel_rfl) only [go_sem, seval, ↓reduceIte, hm, hr]
      simp [endS, hm, hr]
    · simp -implicitDefEqProofs -dsimp +contextual (maxSteps := 9999999) (disch := first | omega | simp only [go_sem] <;> omega | refine ib ?_; kernel_rfl) only [go_sem, seval, ↓reduceIte, hm, hr]
      simp [endS, hm, hr]
  · simp -implicitDefEqProofs -dsimp +contextual (maxSteps := 9999999) (disch := first | omega | simp only [go_sem] <;> omega | refine ib ?_; kernel_rfl) only [go_sem, seval, ↓reduceIte, hm]
    simp [endS, hm]
end Go.Proofs.YtccfjidpdlfenaaDoor
namespace Go.Proofs.YtccfjidpdlfenaaDoor
open Go.Am
set_option linter.unusedSimpArgs false
set_option linter.unusedVariables false
set_option maxRecDepth 100000
/-! Layer 1: what was written is read. -/
theorem beV_app (a b : List UInt8) : beV (a ++ b) = beV a * 256 ^ b.length + beV b := by
  have : ∀ (b : List UInt8) (n : Nat), b.foldl (fun n c => n * 256 + c.toNat) n = n * 256 ^ b.length + b.foldl (fun n c => n * 256 + c.toNat) 0 := by
    intro b
    induction b with
    | nil => intro n; simp
    | cons x b ih =>
      intro n
      rw [List.foldl_cons, ih, List.foldl_cons, ih (0 * 256 + x.toNat), List.length_cons, Nat.pow_succ, Nat.add_mul, Nat.zero_mul, Nat.zero_add, Nat.mul_assoc, Nat.mul_comm 256, Nat.add_assoc]
  unfold beV
  rw [List.foldl_append, this]
theorem beN_succ (s n : Nat) : beN (s + 1) n = beN s (n / 256) ++ [UInt8.ofNat n] := by
  unfold beN
  rw [List.range_succ, List.map_append]
  congr 1
  · apply List.map_congr_left
    intro i hi
    have := List.mem_range.1 hi
    rw [Nat.div_div_eq_div_mul, show 256 * 2 ^ (8 * (s - 1 - i)) = 2 ^ (8 * (s + 1 - 1 - i)) by rw [show 8 * (s + 1 - 1 - i) = 8 + 8 * (s - 1 - i) by omega, Nat.pow_add]]
  · simp
theorem beV_beNs (s n : Nat) : beV (beN s n) = n % 256 ^ s := by
  induction s generalizing n with
  | zero => simp [beN, beV, Nat.mod_one]
  | succ s ih =>
    rw [beN_succ, beV_app, ih]
    simp only [List.length_cons, List.length_nil, beV, List.foldl_cons, List.foldl_nil]
    rw [show 256 ^ (s + 1) = 256 * 256 ^ s by rw [Nat.pow_succ, Nat.mul_comm], Nat.mod_mul, show (UInt8.ofNat n).toNat = n % 256 by simp]
    omega
theorem u64V_id (n : Int) (h : 0 ≤ n) (h2 : n ≤ 9223372036854775807) : u64V n = n.toNat := by unfold u64V; omega
theorem take_pre (a b : List UInt8) (n : Nat) (hn : a.length = n) : (a ++ b).take n = a := by rw [List.take_append_of_le_length (by omega), List.take_of_length_le (by omega)]
theorem drop_pre (a b : List UInt8) (n : Nat) (hn : a.length = n) : (a ++ b).drop n = b := by rw [← hn, List.drop_left]
theorem numS_back (k n : Nat) (r : List UInt8) (h : n < 256 ^ k) : numS ⟨beN k n ++ r, 0⟩ k = (n, ⟨r, 0⟩) := by
  rw [numS_ok _ _ (by simp [beN_len]), take_pre _ _ _ (beN_len _ _), drop_pre _ _ _ (beN_len _ _), beV_beNs, Nat.mod_eq_of_lt h]
theorem rawS_back (s r : List UInt8) : rawS ⟨s ++ r, 0⟩ (s.length : Int) = (s, ⟨r, 0⟩) := by
  unfold rawS
  rw [if_pos rfl, if_neg (by omega), if_pos (by simp; omega)]
  simp
theorem textS_back (s r : List UInt8) (k : Nat) (h : s.length ≤ k) (h2 : s.length ≤ 65535) : textS ⟨textB s ++ r, 0⟩ (k : Int) = (s, ⟨r, 0⟩) := by
  have e : numS ⟨textB s ++ r, 0⟩ 2 = (s.length, ⟨s ++ r, 0⟩) := by
    rw [textB, List.append_assoc, numS_back 2 s.length _ (by omega)]
  rw [textS, e, if_neg (by simp only; omega), rawS_back]

end Go.Proofs.YtccfjidpdlfenaaDoor
namespace Go.Proofs.YtccfjidpdlfenaaDoor
open Go.Am
set_option linter.unusedSimpArgs false
set_option linter.unusedVariables false
set_option maxRecDepth 100000
/-! Layer 49: vaults. -/
structure Vt where
  owner : List UInt8
  n : Nat
  items : List It
def titleV : List UInt8 := [99, 97, 114, 99, 97, 110, 101, 116, 32, 118, 97, 117, 108, 116]
@[go_sem] theorem titleV_len : titleV.length = 14 := rfl
theorem titleV_fold : ([99, 97, 114, 99, 97, 110, 101, 116, 32, 118, 97, 117, 108, 116] : List UInt8) = titleV := rfl
def vrightB (v : Vt) : Bool := rightR v.items && decide (v.owner.length ≤ 16)
def vheadB (v : Vt) : List UInt8 := textB titleV ++ textB v.owner ++ beN 8 v.n
@[go_sem] theorem vheadB_len (v : Vt) : (vheadB v).length = v.owner.length + 26 := by simp [vheadB, textB_len, titleV_len, beN_len]; omega
def goneN (g : Bool) : Nat := if g = true then 1 else 0
def itB (x : It) : List UInt8 := textB x.k ++ textB x.v ++ beN 4 (u64V x.n) ++ beN 1 (goneN x.g)
@[go_sem] theorem itB_len (x : It) : (itB x).length = x.k.length + x.v.length + 9 := by simp [itB, textB_len, beN_len]; omega
def vtextB (l : List It) : List UInt8 := UInt8.ofNat l.length :: l.flatMap itB
theorem flat_le (l : List It) (h : ∀ x ∈ l, x.k.length ≤ 300 ∧ x.v.length ≤ 300) : (l.flatMap itB).length ≤ l.length * 609 := by
  induction l with
  | nil => simp
  | cons x l ih =>
    have h1 := h x (by simp)
    have h2 := ih fun y hy => h y (by simp [hy])
    rw [List.flatMap_cons, List.length_append, itB_len, List.length_cons]
    omega

@[go_sem] theorem e25 (v : Vt) (hl : v.items.length ≤ 9223372036854775807) (hk : ∀ x ∈ v.items, x.k.length ≤ 9223372036854775807) : fn C 25 [] [.agg [.str v.owner, .int .u64 (v.n : Int), .slice 4 (v.items.map It.cs)]] = some (.bool (vrightB v), []) := by
  rw [fn_text Tryd.func25 rfl rfl Tryd.results25 fq25.1 rfl rfl (by kernel_rfl)]
  have e := e40 v.items hl hk
  rw [vrightB]
  by_cases h : rightR v.items = true
  · simp -implicitDefEqProofs -dsimp +contextual (maxSteps := 9999999) (disch := first | omega | simp only [go_sem] <;> omega | refine ib ?_; kernel_rfl) only [go_sem, seval, ↓reduceIte, e, h]
  · simp -implicitDefEqProofs -dsimp +contextual (maxSteps := 9999999) (disch := first | omega | simp only [go_sem] <;> omega | refine ib ?_; kernel_rfl) only [go_sem, seval, ↓reduceIte, e, h]

@[go_sem] theorem e64 (v : Vt) (hn : v.n ≤ 18446744073709551615) (ho : v.owner.length ≤ 65535) : fn C 64 [] [.agg [.str v.owner, .int .u64 (v.n : Int), .slice 4 (v.items.map It.cs)]] = some (.usl 1 ((vheadB v).map byteRow), []) := by
  rw [fn_text Tryd.func64 rfl rfl Tryd.results64 fq64.1 rfl rfl (by kernel_rfl)]
  simp -implicitDefEqProofs -dsimp +contextual (maxSteps := 9999999) (disch := first | omega | simp only [go_sem] <;> omega | refine ib ?_; kernel_rfl) only [go_sem, seval, ↓reduceIte, titleV_fold]
  rfl

theorem len_row (n : Nat) (h : n ≤ 60) : [[AVal.int .u8 (n : Int)]] = [UInt8.ofNat n].map byteRow := by
  simp [byteRow]; omega
def vtextN (n : Nat) (l : List It) : List UInt8 := UInt8.ofNat n :: l.flatMap itB
theorem vtextN_len (n : Nat) (l : List It) : (vtextN n l).length = 1 + (l.flatMap itB).length := by simp [vtextN]; omega
theorem vtextN_step (n : Nat) (l : List It) (i : Nat) (h : i < l.length) : vtextN n (l.take (i + 1)) = vtextN n (l.take i) ++ (textB l[i].k ++ textB l[i].v ++ beN 4 (u64V l[i].n) ++ beN 1 (goneN l[i].g)) := by
  rw [List.take_succ_eq_append_getElem h, vtextN, List.flatMap_append, List.flatMap_singleton, vtextN, List.cons_append]; rfl

theorem row0v (l : List UInt8) : l.map byteRow ++ [[AVal.int .u8 0]] = (l ++ beN 1 0).map byteRow := by rw [List.map_append]; rfl
theorem row1v (l : List UInt8) : l.map byteRow ++ [[AVal.int .u8 1]] = (l ++ beN 1 1).map byteRow := by rw [List.map_append]; rfl

theorem packNum_01 (l : List UInt8) (hl : l.length ≤ 1000000000) : fn C 52 [] [.usl 1 (l.map byteRow), .int .u64 0, .int .i64 1] = some (.usl 1 ((l ++ beN 1 0).map byteRow), []) := packNum [] (.inl rfl) l 0 1 (by decide) (by decide) (by decide) hl
theorem packNum_11 (l : List UInt8) (hl : l.length ≤ 1000000000) : fn C 52 [] [.usl 1 (l.map byteRow), .int .u64 1, .int .i64 1] = some (.usl 1 ((l ++ beN 1 1).map byteRow), []) := packNum [] (.inl rfl) l 1 1 (by decide) (by decide) (by decide) hl

set_option maxHeartbeats 4000000 in
@[go_sem] theorem e68 (l : List It) (hl : l.length ≤ 60) (hk : ∀ x ∈ l, x.k.length ≤ 300 ∧ x.v.length ≤ 300) : fn C 68 [] [.slice 4 (l.map It.cs)] = some (.usl 1 ((vtextB l).map byteRow), []) := by
  rw [fn_text Tryd.func68 rfl rfl Tryd.results68 fq68.1 rfl rfl (by kernel_rfl)]
  simp -implicitDefEqProofs -dsimp +contextual (maxSteps := 9999999) (disch := first | omega | simp only [go_sem] <;> omega | refine ib ?_; kernel_rfl) only [go_sem, seval, ↓reduceIte]
  rw [len_row l.length hl]
  refine kLoop_rec (fun (i : Nat) f H => f 11 = .slice 4 (l.map It.cs) ∧ f 12 = .int .i64 (l.length : Int) ∧ f 13 = .int .i64 (i : Int) ∧ (∃ o g, (o = 110 ∨ o = 132) ∧ f 3 = .osl o g 0 (vtextN l.length (l.take i)).length ∧ H o = ⟨g, .live, 1, (vtextN l.length (l.take i)).map byteRow, false⟩) ∧ i ≤ l.length) (fun i => l.length - i) (fun _ => some (.usl 1 ((vtextB l).map byteRow), [])) ?_ 0 _ _ ?_
  rotate_left
  · refine ⟨rfl, rfl, rfl, ⟨110, 1, .inl rfl, rfl, ?_⟩, by omega⟩
    simp [Heap.set, vtextN]
  rintro i f H ⟨f11, f12, f13, ⟨o, g, ho, f3, H1⟩, hi⟩ ih
  by_cases hl2 : i < l.length
  · have hx := hk l[i] (List.getElem_mem hl2)
    have hle := flat_le (l.take i) (fun x hx => hk x (List.mem_of_mem_take hx))
    have hn := vtextN_len l.length (l.take i)
    rw [List.length_take] at hle
    have h4 := u64V_le l[i].n
    have hs := vtextN_step l.length l i hl2
    simp only [← List.append_assoc] at hs
    have hs2 := congrArg List.length hs
    simp only [List.length_append, textB_len, beN_len] at hs2
    rcases ho with rfl | rfl
    all_goals
      cases hg : l[i].g
      all_goals
        rw [hg] at hs
        simp -implicitDefEqProofs -dsimp +contextual (maxSteps := 9999999) (disch := first | omega | simp only [go_sem] <;> omega | refine ib ?_; kernel_rfl) only [go_sem, seval, ↓reduceIte, f11, f12, f13, f3, H1, hl2, hg, wrap_u64V l[i].n, packNum_01, packNum_11]
        refine ih (i + 1) _ _ ?_ (by omega)
        refine ⟨f11, f12, rfl, ?_, by omega⟩
        rw [hs2, hs]
        exact ⟨132, _, .inr rfl, rfl, rfl⟩
  · obtain rfl : i = l.length := by omega
    rw [List.take_length] at f3 H1
    rcases ho with rfl | rfl
    · simp -implicitDefEqProofs -dsimp +contextual (maxSteps := 9999999) (disch := first | omega | simp only [go_sem] <;> omega | refine ib ?_; kernel_rfl) only [go_sem, seval, ↓reduceIte, f11, f12, f13, f3, H1]
      rfl
    · simp -implicitDefEqProofs -dsimp +contextual (maxSteps := 9999999) (disch := first | omega | simp only [go_sem] <;> omega | refine ib ?_; kernel_rfl) only [go_sem, seval, ↓reduceIte, f11, f12, f13, f3, H1]
      rfl

theorem met_raw (s : Rd) (n : Int) (h : s.met = 0 ∨ s.met = 2 ∨ s.met = 3 ∨ s.met = 10) : (rawS s n).2.met = 0 ∨ (rawS s n).2.met = 2 ∨ (rawS s n).2.met = 3 ∨ (rawS s n).2.met = 10 := by
  unfold rawS
  split
  · split
    · simp
    · split <;> simp
  · exact h
theorem met_num (s : Rd) (n : Nat) (h : s.met = 0 ∨ s.met = 2 ∨ s.met = 3 ∨ s.met = 10) : (numS s n).2.met = 0 ∨ (numS s n).2.met = 2 ∨ (numS s n).2.met = 3 ∨ (numS s n).2.met = 10 := met_raw s n h
theorem met_text (s : Rd) (n : Int) (h : s.met = 0 ∨ s.met = 2 ∨ s.met = 3 ∨ s.met = 10) : (textS s n).2.met = 0 ∨ (textS s n).2.met = 2 ∨ (textS s n).2.met = 3 ∨ (textS s n).2.met = 10 := by
  unfold textS
  split
  · simp
  · exact met_raw _ _ (met_num s 2 h)
/-- What stands in the open, and behind which place it ends. -/
def peekS (b : List UInt8) : List UInt8 × Nat × Nat × Int :=
  let a := textS (openS b) 14
  let c := textS a.2 16
  let d := numS c.2 8
  if d.2.met = 0 then if a.1 = titleV then (c.1, d.1, atS b d.2, 0) else ([], 0, 0, 11) else ([], 0, 0, d.2.met)

set_option maxHeartbeats 4000000 in
@[go_sem] theorem e69 (b : List UInt8) (hb : b.length ≤ 1000000) : fn C 69 [] [.slice 1 (b.map byteRow)] = some (.tup [.agg [.str (peekS b).1, .int .u64 ((peekS b).2.1 : Int), .slice 4 []], .int .i64 ((peekS b).2.2.1 : Int), .int .i64 (peekS b).2.2.2], []) := by
  rw [fn_text Tryd.func69 rfl rfl Tryd.results69 fq69.1 rfl rfl (by kernel_rfl)]
  have r0 : (openS b).rest.length ≤ 1000000 := hb
  have r1 := textS_le (openS b) 14
  have r2 := textS_le (textS (openS b) 14).2 16
  have r3 := numS_rest (textS (textS (openS b) 14).2 16).2 8
  have hm := met_num _ 8 (met_text _ 16 (met_text (openS b) 14 (.inl rfl)))
  have hle := (RdOf_num 8 (RdOf_text 16 (RdOf_text 14 (RdOf_open b)))).len
  simp -implicitDefEqProofs -dsimp +contextual (maxSteps := 9999999) (disch := first | omega | simp only [go_sem] <;> omega | refine ib ?_; kernel_rfl) only [go_sem, seval, ↓reduceIte, titleV_fold]
  rw [peekS]
  generalize hd : numS (textS (textS (openS b) 14).2 16).2 8 = d at *
  generalize (textS (openS b) 14).1 = a at *
  generalize (textS (textS (openS b) 14).2 16).1 = c at *
  by_cases h1 : d.2.met = 0
  · have hl : leftS d.2 = d.2.rest.length := by rw [leftS, if_pos h1]
    have ha : IntKind.i64.wrap ((b.length : Int) - (d.2.rest.length : Int)) = (atS b d.2 : Int) := by
      rw [IntKind.wrap_i64]; omega
    have he : endS d.2 = 0 ∨ endS d.2 = 12 := by
      rw [endS]
      split
      · exact .inr rfl
      · exact .inl h1
    by_cases ht : a = titleV
    · rcases he with he | he <;> simp [kD, he, ht, hl, ha, h1]
    · rcases he with he | he <;> simp [kD, he, ht, h1]
  · have he : endS d.2 = d.2.met := by rw [endS, if_neg (fun h => h1 h.1)]
    have h12 : ¬ d.2.met = 12 := by omega
    simp [kD, he, h1, h12]

set_option maxHeartbeats 4000000 in
@[go_sem] theorem e28 (b : List UInt8) (hb : b.length ≤ 1000000) : fn C 28 [] [.slice 1 (b.map byteRow)] = some (.tup [.str (peekS b).1, .int .u64 ((peekS b).2.1 : Int), .int .i64 (peekS b).2.2.2], []) := by
  rw [fn_text Tryd.func28 rfl rfl Tryd.results28 fq28.1 rfl rfl (by kernel_rfl)]
  simp -implicitDefEqProofs -dsimp +contextual (maxSteps := 9999999) (disch := first | omega | simp only [go_sem] <;> omega | refine ib ?_; kernel_rfl) only [go_sem, seval, ↓reduceIte]
end Go.Proofs.YtccfjidpdlfenaaDoor
namespace Go.Proofs.YtccfjidpdlfenaaDoor
open Go.Am
set_option linter.unusedSimpArgs false
set_option linter.unusedVariables false
set_option maxRecDepth 100000
/-! Layer 6: words turned, mixed. -/
def q4 (a b c d : UInt32) : UInt32 × UInt32 × UInt32 × UInt32 :=
  let a := a + b
  let d := rotl (d ^^^ a) 16
  let c := c + d
  let b := rotl (b ^^^ c) 12
  let a := a + b
  let d := rotl (d ^^^ a) 8
  let c := c + d
  let b := rotl (b ^^^ c) 7
  (a, b, c, d)
def le4 (a b c d : UInt8) : UInt32 := ((a.toUInt32 ||| W32.shl b.toUInt32 8) ||| W32.shl c.toUInt32 16) ||| W32.shl d.toUInt32 24
def wordOf (b : List UInt8) : UInt32 := le4 (b.getD 0 0) (b.getD 1 0) (b.getD 2 0) (b.getD 3 0)
def firstW (key nonce : List UInt8) (ctr : UInt32) : List UInt32 := [1634760805, 857760878, 2036477234, 1797285236, wordOf key, wordOf (key.drop 4), wordOf (key.drop 8), wordOf (key.drop 12), wordOf (key.drop 16), wordOf (key.drop 20), wordOf (key.drop 24), wordOf (key.drop 28), ctr, wordOf nonce, wordOf (nonce.drop 4), wordOf (nonce.drop 8)]

@[go_sem] theorem e174 (a b c d : UInt32) : fn C 174 [] [.int .u32 (a.toNat : Int), .int .u32 (b.toNat : Int), .int .u32 (c.toNat : Int), .int .u32 (d.toNat : Int)] = some (.tup [.int .u32 ((q4 a b c d).1.toNat : Int), .int .u32 ((q4 a b c d).2.1.toNat : Int), .int .u32 ((q4 a b c d).2.2.1.toNat : Int), .int .u32 ((q4 a b c d).2.2.2.toNat : Int)], []) := by
  rw [fn_text Tryd.func174 rfl rfl Tryd.results174 fq174.1 rfl rfl (by kernel_rfl)]
  simp -implicitDefEqProofs -dsimp +contextual (maxSteps := 5000000) (disch := first | omega | simp only [go_sem] <;> omega | refine ib ?_; kernel_rfl) only [go_sem, Nat.reduceBEq, Int.reduceNeg, Int.reduceLT, Int.reduceLE, Int.reduceAdd, Int.reduceSub, Int.reduceToNat, Int.reduceMul, Int.reduceMod, Int.reduceTMod, Int.reduceTDiv, Int.reduceEq, Nat.reducePow, Nat.reduceDiv, Nat.reduceShiftRight, Nat.reduceMod, List.reduceReplicate, ↓reduceIte, Nat.reduceEqDiff, Nat.reduceAdd, Nat.reduceSub, Nat.reduceLeDiff, Nat.reduceLT, Nat.reduceMul]
  rfl

attribute [irreducible] q4

@[go_sem] theorem e124 (key nonce : List UInt8) : fn C 124 [] [.slice 1 (key.map byteRow), .slice 1 (nonce.map byteRow)] = some (.bool (decide (key.length = 32) && decide (nonce.length = 12)), []) := by
  rw [fn_text Tryd.func124 rfl rfl Tryd.results124 fq124.1 rfl rfl (by kernel_rfl)]
  simp -implicitDefEqProofs -dsimp +contextual (maxSteps := 5000000) (disch := first | omega | simp only [go_sem] <;> omega | refine ib ?_; kernel_rfl) only [go_sem, Nat.reduceBEq, Int.reduceNeg, Int.reduceLT, Int.reduceLE, Int.reduceAdd, Int.reduceSub, Int.reduceToNat, Int.reduceMul, Int.reduceMod, Int.reduceTMod, Int.reduceTDiv, Int.reduceEq, Nat.reducePow, Nat.reduceDiv, Nat.reduceShiftRight, Nat.reduceMod, List.reduceReplicate, ↓reduceIte, Nat.reduceEqDiff, Nat.reduceAdd, Nat.reduceSub, Nat.reduceLeDiff, Nat.reduceLT, Nat.reduceMul]
  (repeat' (refine kD_intro (fun _ => ?_) (fun _ => ?_))) <;> exact Res_bool (by simp [*])

theorem four (b : List UInt8) (h : 4 ≤ b.length) : ∃ x y z w r, b = x :: y :: z :: w :: r := by
  match b, h with
  | x :: y :: z :: w :: r, _ => exact ⟨x, y, z, w, r, rfl⟩

@[go_sem] theorem e140 (b : List UInt8) (h : 4 ≤ b.length) : fn C 140 [] [.slice 1 (b.map byteRow)] = some (.int .u32 ((wordOf b).toNat : Int), []) := by
  obtain ⟨x, y, z, w, r, rfl⟩ := four b h
  rw [fn_text Tryd.func140 rfl rfl Tryd.results140 fq140.1 rfl rfl (by kernel_rfl)]
  simp -implicitDefEqProofs -dsimp +contextual (maxSteps := 5000000) (disch := first | omega | simp only [go_sem] <;> omega | refine ib ?_; kernel_rfl) only [go_sem, Nat.reduceBEq, Int.reduceNeg, Int.reduceLT, Int.reduceLE, Int.reduceAdd, Int.reduceSub, Int.reduceToNat, Int.reduceMul, Int.reduceMod, Int.reduceTMod, Int.reduceTDiv, Int.reduceEq, Nat.reducePow, Nat.reduceDiv, Nat.reduceShiftRight, Nat.reduceMod, List.reduceReplicate, ↓reduceIte, Nat.reduceEqDiff, Nat.reduceAdd, Nat.reduceSub, Nat.reduceLeDiff, Nat.reduceLT, Nat.reduceMul]
  rfl

theorem orAdd (a b k : Nat) (h : b < 2 ^ k) : a * 2 ^ k ||| b = a * 2 ^ k + b := by
  rw [← Nat.shiftLeft_eq, Nat.shiftLeft_add_eq_or_of_lt h]
theorem le4_sum (a b c d : UInt8) : (le4 a b c d).toNat = a.toNat + b.toNat * 256 + c.toNat * 65536 + d.toNat * 16777216 := by
  have ha := u8_lt a; have hb := u8_lt b; have hc := u8_lt c; have hd := u8_lt d
  simp only [le4, W32.shl, UInt32.toNat_or, UInt8.toNat_toUInt32, UInt32.toNat_ofNat']
  rw [Nat.mod_eq_of_lt (show b.toNat * 2 ^ 8 < 2 ^ 32 by omega), Nat.mod_eq_of_lt (show c.toNat * 2 ^ 16 < 2 ^ 32 by omega), Nat.mod_eq_of_lt (show d.toNat * 2 ^ 24 < 2 ^ 32 by omega)]
  rw [Nat.or_comm a.toNat, orAdd _ _ _ (by omega), Nat.or_comm _ (c.toNat * 2 ^ 16), orAdd _ _ _ (by omega), Nat.or_comm _ (d.toNat * 2 ^ 24), orAdd _ _ _ (by omega)]
  omega
theorem word_sum (a b c d : UInt8) : (d.toUInt32 * UInt32.ofNat 16777216 + c.toUInt32 * UInt32.ofNat 65536 + b.toUInt32 * UInt32.ofNat 256 + a.toUInt32) = le4 a b c d := by
  have ha := u8_lt a; have hb := u8_lt b; have hc := u8_lt c; have hd := u8_lt d
  apply UInt32.toNat_inj.1
  rw [le4_sum]
  simp only [UInt32.toNat_add, UInt32.toNat_mul, UInt8.toNat_toUInt32, UInt32.toNat_ofNat']
  omega

set_option maxHeartbeats 4000000 in
@[go_sem] theorem e125 (key nonce : List UInt8) (ctr : UInt32) (hk : key.length = 32) (hn : nonce.length = 12) : fn C 125 [] [.slice 1 (key.map byteRow), .slice 1 (nonce.map byteRow), .int .u32 (ctr.toNat : Int)] = some (.agg ((firstW key nonce ctr).map w32), []) := by
  rw [fn_text Tryd.func125 rfl rfl Tryd.results125 fq125.1 rfl rfl (by kernel_rfl)]
  simp -implicitDefEqProofs -dsimp +contextual (maxSteps := 5000000) (disch := first | omega | simp only [go_sem] <;> omega | refine ib ?_; kernel_rfl) only [go_sem, Nat.reduceBEq, Int.reduceNeg, Int.reduceLT, Int.reduceLE, Int.reduceAdd, Int.reduceSub, Int.reduceToNat, Int.reduceMul, Int.reduceMod, Int.reduceTMod, Int.reduceTDiv, Int.reduceEq, Nat.reducePow, Nat.reduceDiv, Nat.reduceShiftRight, Nat.reduceMod, List.reduceReplicate, ↓reduceIte, Nat.reduceEqDiff, Nat.reduceAdd, Nat.reduceSub, Nat.reduceLeDiff, Nat.reduceLT, Nat.reduceMul, kLoop_eq, hk, hn]
  rfl

def qAt (ws : List UInt32) (i j k l : Nat) : List UInt32 :=
  let r := q4 (ws.getD i 0) (ws.getD j 0) (ws.getD k 0) (ws.getD l 0)
  (((ws.set i r.1).set j r.2.1).set k r.2.2.1).set l r.2.2.2
theorem qAt_len (ws : List UInt32) (i j k l : Nat) : (qAt ws i j k l).length = ws.length := by simp [qAt]
theorem qAt_eq (ws : List UInt32) (i j k l : Nat) (hi : i < ws.length) (hj : j < ws.length) (hk : k < ws.length) (hl : l < ws.length) :
    (((ws.set i (q4 ws[i] ws[j] ws[k] ws[l]).1).set j (q4 ws[i] ws[j] ws[k] ws[l]).2.1).set k (q4 ws[i] ws[j] ws[k] ws[l]).2.2.1).set l (q4 ws[i] ws[j] ws[k] ws[l]).2.2.2 = qAt ws i j k l := by
  simp [qAt, hi, hj, hk, hl]

@[go_sem] theorem e163 (ws : List UInt32) (i j k l : Nat) (h : ws.length = 16) (hi : i < 16) (hj : j < 16) (hk : k < 16) (hl : l < 16) : fn C 163 [] [.agg (ws.map w32), .int .i64 (i : Int), .int .i64 (j : Int), .int .i64 (k : Int), .int .i64 (l : Int)] = some (.agg ((qAt ws i j k l).map w32), []) := by
  rw [fn_text Tryd.func163 rfl rfl Tryd.results163 fq163.1 rfl rfl (okArgs_of (by kernel_rfl) (by kernel_rfl) (by simp only [go_sem]) rfl)]
  simp -implicitDefEqProofs -dsimp +contextual (maxSteps := 5000000) (disch := first | omega | simp only [go_sem] <;> omega | refine ib ?_; kernel_rfl) only [go_sem, Nat.reduceBEq, Int.reduceNeg, Int.reduceLT, Int.reduceLE, Int.reduceAdd, Int.reduceSub, Int.reduceToNat, Int.reduceMul, Int.reduceMod, Int.reduceTMod, Int.reduceTDiv, Int.reduceEq, Nat.reducePow, Nat.reduceDiv, Nat.reduceShiftRight, Nat.reduceMod, List.reduceReplicate, ↓reduceIte, Nat.reduceEqDiff, Nat.reduceAdd, Nat.reduceSub, Nat.reduceLeDiff, Nat.reduceLT, Nat.reduceMul, h, hi, hj, hk, hl]
  rw [qAt_eq]

attribute [irreducible] qAt
def places : List (Nat × Nat × Nat × Nat) := [(0, 4, 8, 12), (1, 5, 9, 13), (2, 6, 10, 14), (3, 7, 11, 15), (0, 5, 10, 15), (1, 6, 11, 12), (2, 7, 8, 13), (3, 4, 9, 14)]
def qP (ws : List UInt32) (p : Nat × Nat × Nat × Nat) : List UInt32 := qAt ws p.1 p.2.1 p.2.2.1 p.2.2.2
def roundW (ws : List UInt32) : List UInt32 := places.foldl qP ws
def roundsW : Nat → List UInt32 → List UInt32
  | 0, ws => ws
  | n + 1, ws => roundsW n (roundW ws)
theorem qP_fold_len (l : List (Nat × Nat × Nat × Nat)) : ∀ ws : List UInt32, (l.foldl qP ws).length = ws.length := by
  induction l with
  | nil => intro ws; rfl
  | cons p l ih => intro ws; rw [List.foldl_cons, ih]; exact qAt_len ..
theorem roundW_len (ws : List UInt32) : (roundW ws).length = ws.length := qP_fold_len _ _
theorem roundsW_len (n : Nat) : ∀ ws : List UInt32, (roundsW n ws).length = ws.length := by
  induction n with
  | zero => intro ws; rfl
  | succ n ih => intro ws; rw [roundsW, ih, roundW_len]
@[go_sem] theorem qAt_len' (ws : List UInt32) (i j k l : Nat) : (qAt ws i j k l).length = ws.length := qAt_len ws i j k l
attribute [go_sem] roundW_len roundsW_len

@[go_sem] theorem equarter_lit (ws : List UInt32) (i j k l : Nat) (h : ws.length = 16) (hi : OfNat.ofNat i < 16) (hj : OfNat.ofNat j < 16) (hk : OfNat.ofNat k < 16) (hl : OfNat.ofNat l < 16) : fn C 163 [] [.agg (ws.map w32), .int .i64 (no_index (OfNat.ofNat i : Int)), .int .i64 (no_index (OfNat.ofNat j : Int)), .int .i64 (no_index (OfNat.ofNat k : Int)), .int .i64 (no_index (OfNat.ofNat l : Int))] = some (.agg ((qAt ws (OfNat.ofNat i) (OfNat.ofNat j) (OfNat.ofNat k) (OfNat.ofNat l)).map w32), []) := e163 ws (OfNat.ofNat i) (OfNat.ofNat j) (OfNat.ofNat k) (OfNat.ofNat l) h hi hj hk hl

@[go_sem] theorem e141 (ws : List UInt32) (h : ws.length = 16) : fn C 141 [] [.agg (ws.map w32)] = some (.agg ((roundW ws).map w32), []) := by
  rw [fn_text Tryd.func141 rfl rfl Tryd.results141 fq141.1 rfl rfl (okArgs_of (by kernel_rfl) (by kernel_rfl) (by simp only [go_sem]) rfl)]
  simp -implicitDefEqProofs -dsimp +contextual (maxSteps := 5000000) (disch := first | omega | simp only [go_sem] <;> omega | refine ib ?_; kernel_rfl) only [go_sem, Nat.reduceBEq, Int.reduceNeg, Int.reduceLT, Int.reduceLE, Int.reduceAdd, Int.reduceSub, Int.reduceToNat, Int.reduceMul, Int.reduceMod, Int.reduceTMod, Int.reduceTDiv, Int.reduceEq, Nat.reducePow, Nat.reduceDiv, Nat.reduceShiftRight, Nat.reduceMod, List.reduceReplicate, ↓reduceIte, Nat.reduceEqDiff, Nat.reduceAdd, Nat.reduceSub, Nat.reduceLeDiff, Nat.reduceLT, Nat.reduceMul, kLoop_eq, h]
  simp only [roundW, places, List.foldl_cons, List.foldl_nil, qP]


end Go.Proofs.YtccfjidpdlfenaaDoor
namespace Go.Proofs.YtccfjidpdlfenaaDoor
open Go.Am
set_option linter.unusedSimpArgs false
set_option linter.unusedVariables false
set_option maxRecDepth 100000
/-! Layer 6: blocks. -/
def bytes4 (x : UInt32) : List UInt8 := [x.toUInt8, (W32.shr x 8).toUInt8, (W32.shr x 16).toUInt8, (W32.shr x 24).toUInt8]
def outW : List UInt32 → List UInt32 → List UInt8
  | a :: us, b :: bs => bytes4 (a + b) ++ outW us bs
  | _, _ => []
theorem outW_len : ∀ (us bs : List UInt32), us.length = bs.length → (outW us bs).length = 4 * us.length
  | [], [], _ => rfl
  | a :: us, b :: bs, h => by
    have := outW_len us bs (by simpa using h)
    simp [outW, bytes4, this]; omega
def blockW (ws : List UInt32) : List UInt8 := outW (roundsW 10 ws) ws
@[go_sem] theorem blockW_len (ws : List UInt32) : (blockW ws).length = 4 * ws.length := by rw [blockW, outW_len _ _ (roundsW_len ..), roundsW_len]
theorem set4_take (bs : List UInt8) (n : Nat) (a b c d : UInt8) (h : 4 * n + 4 ≤ bs.length) : ((((bs.set (4 * n) a).set (4 * n + 1) b).set (4 * n + 2) c).set (4 * n + 3) d).take (4 * (n + 1)) = bs.take (4 * n) ++ [a, b, c, d] := by
  apply List.ext_getElem?
  intro i
  simp only [List.getElem?_take, List.getElem?_set, List.getElem?_append, List.length_set, List.length_take]
  rw [Nat.min_eq_left (by omega)]
  by_cases h0 : i < 4 * n
  · rw [if_pos (by omega), if_neg (by omega), if_neg (by omega), if_neg (by omega), if_neg (by omega), if_pos h0, if_pos h0]
  · by_cases h1 : i < 4 * (n + 1)
    · obtain ⟨k, rfl⟩ : ∃ k, i = 4 * n + k := ⟨i - 4 * n, by omega⟩
      rw [if_pos h1, if_neg h0]
      have hk : k < 4 := by omega
      rw [Nat.add_sub_cancel_left]
      match k, hk with
      | 0, _ => simp; omega
      | 1, _ => simp; omega
      | 2, _ => simp; omega
      | 3, _ => simp; omega
    · rw [if_neg h1, if_neg h0]; simp; omega

def Z64 : List AVal := (List.replicate 64 (0 : UInt8)).map w8
@[go_sem] theorem Z64_len : Z64.length = 64 := rfl
@[go_sem] theorem Z64_drop : Z64.drop 64 = [] := rfl
set_option maxHeartbeats 4000000 in
@[go_sem] theorem e126 (ws : List UInt32) (h : ws.length = 16) : fn C 126 [] [.agg (ws.map w32)] = some (.agg ((blockW ws).map w8), []) := by
  rw [fn_text Tryd.func126 rfl rfl Tryd.results126 fq126.1 rfl rfl (okArgs_of (by kernel_rfl) (by kernel_rfl) (by simp only [go_sem]) rfl)]
  simp -implicitDefEqProofs -dsimp +contextual (maxSteps := 5000000) (disch := first | omega | simp only [go_sem] <;> omega | refine ib ?_; kernel_rfl) only [go_sem, Nat.reduceBEq, Int.reduceNeg, Int.reduceLT, Int.reduceLE, Int.reduceAdd, Int.reduceSub, Int.reduceToNat, Int.reduceMul, Int.reduceMod, Int.reduceTMod, Int.reduceTDiv, Int.reduceEq, Nat.reducePow, Nat.reduceDiv, Nat.reduceShiftRight, Nat.reduceMod, List.reduceReplicate, ↓reduceIte, Nat.reduceEqDiff, Nat.reduceAdd, Nat.reduceSub, Nat.reduceLeDiff, Nat.reduceLT, Nat.reduceMul, h]
  refine (kLoop_rec2 (fun (i : Nat) (vs : List UInt32) f H => f 1 = .ptr 101 1 0 0 ∧ f 2 = .ptr 102 1 0 0 ∧ f 3 = .ptr 103 1 0 0 ∧ f 8 = .int .i64 (i : Int) ∧ H 101 = ⟨1, .live, 16, [ws.map w32], false⟩ ∧ H 102 = ⟨1, .live, 64, [Z64], false⟩ ∧ H 103 = ⟨1, .live, 16, [vs.map w32], false⟩ ∧ H 104 = ⟨0, .dead, 0, [], false⟩ ∧ i ≤ 10 ∧ vs.length = 16) (fun i _ => 10 - i) (fun i vs => some (.agg ((outW (roundsW (10 - i) vs) ws).map w8), [])) ?_ 0 ws _ _ ⟨rfl, rfl, rfl, rfl, rfl, rfl, rfl, rfl, by omega, h⟩).trans (by simp only [blockW, Nat.sub_zero])
  rintro i vs f H ⟨f1, f2, f3, f8, H1, H2, H3, H4, hi, hv⟩ ih
  by_cases hl : i < 10
  · simp -implicitDefEqProofs -dsimp +contextual (maxSteps := 5000000) (disch := first | omega | simp only [go_sem] <;> omega | refine ib ?_; kernel_rfl) only [go_sem, Nat.reduceBEq, Int.reduceNeg, Int.reduceLT, Int.reduceLE, Int.reduceAdd, Int.reduceSub, Int.reduceToNat, Int.reduceMul, Int.reduceMod, Int.reduceTMod, Int.reduceTDiv, Int.reduceEq, Nat.reducePow, Nat.reduceDiv, Nat.reduceShiftRight, Nat.reduceMod, List.reduceReplicate, ↓reduceIte, Nat.reduceEqDiff, Nat.reduceAdd, Nat.reduceSub, Nat.reduceLeDiff, Nat.reduceLT, Nat.reduceMul, f1, f2, f3, f8, H1, H3, hl, hv]
    rw [show 10 - i = (10 - (i + 1)) + 1 by omega, roundsW]
    exact ih (i + 1) (roundW vs) _ _ ⟨f1, f2, f3, rfl, H1, H2, rfl, H4, by omega, by rw [roundW_len]; exact hv⟩ (by omega)
  · simp -implicitDefEqProofs -dsimp +contextual (maxSteps := 5000000) (disch := first | omega | simp only [go_sem] <;> omega | refine ib ?_; kernel_rfl) only [go_sem, Nat.reduceBEq, Int.reduceNeg, Int.reduceLT, Int.reduceLE, Int.reduceAdd, Int.reduceSub, Int.reduceToNat, Int.reduceMul, Int.reduceMod, Int.reduceTMod, Int.reduceTDiv, Int.reduceEq, Nat.reducePow, Nat.reduceDiv, Nat.reduceShiftRight, Nat.reduceMod, List.reduceReplicate, ↓reduceIte, Nat.reduceEqDiff, Nat.reduceAdd, Nat.reduceSub, Nat.reduceLeDiff, Nat.reduceLT, Nat.reduceMul, f1, f2, f3, f8, H1, H3, H4, hl, hv]
    rw [show 10 - i = 0 by omega, roundsW]
    refine (kLoop_rec2 (fun (n : Nat) (bs : List UInt8) f H => f 1 = .ptr 101 1 0 0 ∧ f 2 = .ptr 102 1 0 0 ∧ f 3 = .ptr 103 1 0 0 ∧ f 4 = .ptr 104 1 0 0 ∧ f 13 = .int .i64 (n : Int) ∧ H 101 = ⟨1, .live, 16, [ws.map w32], false⟩ ∧ H 102 = ⟨1, .live, 64, [Z64], false⟩ ∧ H 103 = ⟨1, .live, 16, [vs.map w32], false⟩ ∧ H 104 = ⟨1, .live, 64, [bs.map w8], false⟩ ∧ n ≤ 16 ∧ bs.length = 64) (fun n _ => 16 - n) (fun n bs => some (.agg ((bs.take (4 * n) ++ outW (vs.drop n) (ws.drop n)).map w8), [])) ?_ 0 (List.replicate 64 0) _ _ ?_).trans ?_
    rotate_left
    · exact ⟨f1, f2, f3, rfl, rfl, H1, H2, H3, rfl, by omega, rfl⟩
    · simp only [Nat.mul_zero, List.take_zero, List.drop_zero, List.nil_append]
    rintro n bs f H ⟨f1, f2, f3, f4, f13, H1, H2, H3, H4, hn, hb⟩ ih
    by_cases hl : n < 16
    · simp -implicitDefEqProofs -dsimp +contextual (maxSteps := 5000000) (disch := first | omega | simp only [go_sem] <;> omega | refine ib ?_; kernel_rfl) only [go_sem, Nat.reduceBEq, Int.reduceNeg, Int.reduceLT, Int.reduceLE, Int.reduceAdd, Int.reduceSub, Int.reduceToNat, Int.reduceMul, Int.reduceMod, Int.reduceTMod, Int.reduceTDiv, Int.reduceEq, Nat.reducePow, Nat.reduceDiv, Nat.reduceShiftRight, Nat.reduceMod, List.reduceReplicate, ↓reduceIte, Nat.reduceEqDiff, Nat.reduceAdd, Nat.reduceSub, Nat.reduceLeDiff, Nat.reduceLT, Nat.reduceMul, f1, f2, f3, f4, f13, H1, H2, H3, H4, hl, hv, hb, h]
      rw [List.drop_eq_getElem_cons (by omega : n < vs.length), List.drop_eq_getElem_cons (by omega : n < ws.length)]
      refine (ih (n + 1) ((((bs.set (4 * n) (vs[n] + ws[n]).toUInt8).set (4 * n + 1) (W32.shr (vs[n] + ws[n]) 8).toUInt8).set (4 * n + 2) (W32.shr (vs[n] + ws[n]) 16).toUInt8).set (4 * n + 3) (W32.shr (vs[n] + ws[n]) 24).toUInt8) _ _ (by exact ⟨f1, f2, f3, f4, rfl, H1, H2, H3, rfl, by omega, by simpa using hb⟩) (by omega)).trans ?_
      rw [set4_take _ _ _ _ _ _ (by omega)]
      simp only [outW, bytes4, List.append_assoc]
    · simp -implicitDefEqProofs -dsimp +contextual (maxSteps := 5000000) (disch := first | omega | simp only [go_sem] <;> omega | refine ib ?_; kernel_rfl) only [go_sem, Nat.reduceBEq, Int.reduceNeg, Int.reduceLT, Int.reduceLE, Int.reduceAdd, Int.reduceSub, Int.reduceToNat, Int.reduceMul, Int.reduceMod, Int.reduceTMod, Int.reduceTDiv, Int.reduceEq, Nat.reducePow, Nat.reduceDiv, Nat.reduceShiftRight, Nat.reduceMod, List.reduceReplicate, ↓reduceIte, Nat.reduceEqDiff, Nat.reduceAdd, Nat.reduceSub, Nat.reduceLeDiff, Nat.reduceLT, Nat.reduceMul, f1, f2, f3, f4, f13, H1, H2, H3, H4, hl, hv, hb, h]
      simp [show n = 16 by omega, hb, hv, h, List.take_of_length_le, outW]

theorem blockW_len64 (ws : List UInt32) (h : ws.length = 16) : (blockW ws).length = 64 := by rw [blockW_len, h]
theorem firstW_len (key nonce : List UInt8) (ctr : UInt32) : (firstW key nonce ctr).length = 16 := rfl
attribute [go_sem] firstW_len
def blockB (key nonce : List UInt8) (ctr : UInt32) : List UInt8 := blockW (firstW key nonce ctr)
@[go_sem] theorem blockB_len (key nonce : List UInt8) (ctr : UInt32) : (blockB key nonce ctr).length = 64 := blockW_len64 _ rfl
@[go_sem] theorem blockB_eq (key nonce : List UInt8) (ctr : UInt32) : blockW (firstW key nonce ctr) = blockB key nonce ctr := rfl

set_option maxHeartbeats 4000000 in
@[go_sem] theorem e106 (key nonce : List UInt8) (ctr : UInt32) : fn C 106 [] [.slice 1 (key.map byteRow), .slice 1 (nonce.map byteRow), .int .u32 (ctr.toNat : Int)] = some (if key.length = 32 ∧ nonce.length = 12 then .tup [.slice 1 ((blockB key nonce ctr).map byteRow), .int .i64 0] else .tup [.slice 1 [], .int .i64 2], []) := by
  rw [fn_text Tryd.func106 rfl rfl Tryd.results106 fq106.1 rfl rfl (by kernel_rfl)]
  by_cases hk : key.length = 32
  · by_cases hn : nonce.length = 12
    · have hb := e126 (firstW key nonce ctr) rfl
      simp -implicitDefEqProofs -dsimp +contextual (maxSteps := 5000000) (disch := first | omega | simp only [go_sem] <;> omega | refine ib ?_; kernel_rfl) only [go_sem, Nat.reduceBEq, Int.reduceNeg, Int.reduceLT, Int.reduceLE, Int.reduceAdd, Int.reduceSub, Int.reduceToNat, Int.reduceMul, Int.reduceMod, Int.reduceTMod, Int.reduceTDiv, Int.reduceEq, Nat.reducePow, Nat.reduceDiv, Nat.reduceShiftRight, Nat.reduceMod, List.reduceReplicate, ↓reduceIte, Nat.reduceEqDiff, Nat.reduceAdd, Nat.reduceSub, Nat.reduceLeDiff, Nat.reduceLT, Nat.reduceMul, hk, hn, hb]
    · simp -implicitDefEqProofs -dsimp +contextual (maxSteps := 5000000) (disch := first | omega | simp only [go_sem] <;> omega | refine ib ?_; kernel_rfl) only [go_sem, Nat.reduceBEq, Int.reduceNeg, Int.reduceLT, Int.reduceLE, Int.reduceAdd, Int.reduceSub, Int.reduceToNat, Int.reduceMul, Int.reduceMod, Int.reduceTMod, Int.reduceTDiv, Int.reduceEq, Nat.reducePow, Nat.reduceDiv, Nat.reduceShiftRight, Nat.reduceMod, List.reduceReplicate, ↓reduceIte, Nat.reduceEqDiff, Nat.reduceAdd, Nat.reduceSub, Nat.reduceLeDiff, Nat.reduceLT, Nat.reduceMul, hk, hn]
  · simp -implicitDefEqProofs -dsimp +contextual (maxSteps := 5000000) (disch := first | omega | simp only [go_sem] <;> omega | refine ib ?_; kernel_rfl) only [go_sem, Nat.reduceBEq, Int.reduceNeg, Int.reduceLT, Int.reduceLE, Int.reduceAdd, Int.reduceSub, Int.reduceToNat, Int.reduceMul, Int.reduceMod, Int.reduceTMod, Int.reduceTDiv, Int.reduceEq, Nat.reducePow, Nat.reduceDiv, Nat.reduceShiftRight, Nat.reduceMod, List.reduceReplicate, ↓reduceIte, Nat.reduceEqDiff, Nat.reduceAdd, Nat.reduceSub, Nat.reduceLeDiff, Nat.reduceLT, Nat.reduceMul, hk]

end Go.Proofs.YtccfjidpdlfenaaDoor
namespace Go.Proofs.YtccfjidpdlfenaaDoor
open Go.Am
set_option linter.unusedSimpArgs false
set_option linter.unusedVariables false
set_option maxRecDepth 100000
/-! Layer 6, by the document; texts changed. -/
theorem first_take (key nonce : List UInt8) (ctr : UInt32) (n : Nat) (h : n < 8) : (firstW key nonce ctr).take (4 + n) ++ [wordOf (key.drop (4 * n))] = (firstW key nonce ctr).take (4 + (n + 1)) := by
  match n, h with
  | 0, _ => rfl
  | 1, _ => rfl
  | 2, _ => rfl
  | 3, _ => rfl
  | 4, _ => rfl
  | 5, _ => rfl
  | 6, _ => rfl
  | 7, _ => rfl
end Go.Proofs.YtccfjidpdlfenaaDoor
namespace Go.Proofs.YtccfjidpdlfenaaDoor
open Go.Am
set_option linter.unusedSimpArgs false
set_option linter.unusedVariables false
set_option maxRecDepth 100000
/-! Layer 6: texts changed. -/
/-- A row that is filled from the left. -/
def fillTo (l : List UInt8) (m : Nat) : List UInt8 := l.take m ++ List.replicate (l.length - m) 0
theorem fillTo_len (l : List UInt8) (m : Nat) (h : m ≤ l.length) : (fillTo l m).length = l.length := by simp [fillTo]; omega
theorem fillTo_zero (l : List UInt8) : fillTo l 0 = List.replicate l.length 0 := by simp [fillTo]
theorem fillTo_all (l : List UInt8) (m : Nat) (h : l.length ≤ m) : fillTo l m = l := by simp [fillTo, List.take_of_length_le h, show l.length - m = 0 by omega]
theorem fillTo_set (l : List UInt8) (m : Nat) (h : m < l.length) : (fillTo l m).set m l[m] = fillTo l (m + 1) := by
  unfold fillTo
  rw [List.set_append_right _ _ (by simp; omega), show l.length - m = (l.length - (m + 1)) + 1 by omega, List.replicate_succ, List.length_take, Nat.min_eq_left (by omega), Nat.sub_self, List.set_cons_zero, List.take_succ_eq_append_getElem h, List.append_assoc]
  rfl
def ksAt (key nonce : List UInt8) (ctr : UInt32) (i : Nat) : UInt8 := (blockB key nonce (ctr + UInt32.ofNat (i / 64))).getD (i % 64) 0
def xorB (key nonce : List UInt8) (ctr : UInt32) (msg : List UInt8) : List UInt8 := msg.mapIdx fun i b => b ^^^ ksAt key nonce ctr i
@[go_sem] theorem xorB_len (key nonce : List UInt8) (ctr : UInt32) (msg : List UInt8) : (xorB key nonce ctr msg).length = msg.length := by simp [xorB]
theorem xorB_xorB (key nonce : List UInt8) (ctr : UInt32) (msg : List UInt8) : xorB key nonce ctr (xorB key nonce ctr msg) = msg := by
  apply List.ext_getElem
  · simp [xorB]
  · intro i h1 h2
    simp only [xorB, List.getElem_mapIdx]
    rw [UInt8.xor_assoc, UInt8.xor_self, UInt8.xor_zero]
theorem xorB_get (key nonce : List UInt8) (ctr : UInt32) (msg : List UInt8) (i : Nat) (h : i < msg.length) : (xorB key nonce ctr msg)[i]'(by rw [xorB_len]; exact h) = msg[i] ^^^ ksAt key nonce ctr i := by simp [xorB]
theorem ks_block (key nonce : List UInt8) (ctr : UInt32) (j k : Nat) (hk : k < 64) : ksAt key nonce ctr (64 * j + k) = (blockB key nonce (ctr + UInt32.ofNat j))[k]'(by rw [blockB_len]; exact hk) := by
  simp only [ksAt, show (64 * j + k) / 64 = j by omega, show (64 * j + k) % 64 = k by omega]
  rw [List.getD_eq_getElem?_getD, List.getElem?_eq_getElem (by rw [blockB_len]; exact hk)]; rfl
theorem firstW_up (key nonce : List UInt8) (c : UInt32) : (firstW key nonce c).set 12 (c + 1) = firstW key nonce (c + 1) := rfl
theorem firstW_12 (key nonce : List UInt8) (c : UInt32) : (firstW key nonce c)[12]'(by rw [firstW_len]; omega) = c := rfl
attribute [local irreducible] firstW blockB

def xorR (mk : Nat → List (List AVal) → AVal) (key nonce : List UInt8) (ctr : UInt32) (msg : List UInt8) : Res :=
  if key.length = 32 ∧ nonce.length = 12 then
    if (msg.length + 63) / 64 ≤ 4294967296 - ctr.toNat then (.tup [mk 1 ((xorB key nonce ctr msg).map byteRow), .int .i64 0], [])
    else (.tup [mk 1 [], .int .i64 3], [])
  else (.tup [mk 1 [], .int .i64 2], [])

set_option maxHeartbeats 4000000 in
@[go_sem] theorem e101 (key nonce : List UInt8) (ctr : UInt32) (msg : List UInt8) (hm : msg.length ≤ 1000000000) : fn C 101 [] [.slice 1 (key.map byteRow), .slice 1 (nonce.map byteRow), .int .u32 (ctr.toNat : Int), .slice 1 (msg.map byteRow)] = some (xorR .usl key nonce ctr msg) := by
  rw [fn_text Tryd.func101 rfl rfl Tryd.results101 fq101.1 rfl rfl (by kernel_rfl)]
  have hc := u32_lt ctr
  have ec : IntKind.u64.wrap ((4294967296 : Int) - (ctr.toUInt64.toNat : Int)) = ((4294967296 - ctr.toNat : Nat) : Int) := by
    rw [UInt32.toNat_toUInt64, wrap_u64_id] <;> omega
  by_cases hk : key.length = 32
  · by_cases hn : nonce.length = 12
    · have hb := fun c => e126 (firstW key nonce c) (firstW_len ..)
      have hfl := fun c => firstW_len key nonce c
      by_cases hbig : (msg.length + 63) / 64 ≤ 4294967296 - ctr.toNat
      · have hbig' : ¬ (4294967296 - ctr.toNat < (msg.length + 64 - 1) / 64) := by omega
        simp -implicitDefEqProofs -dsimp +contextual (maxSteps := 5000000) (disch := first | omega | simp only [go_sem] <;> omega | refine ib ?_; kernel_rfl) only [go_sem, Nat.reduceBEq, Int.reduceNeg, Int.reduceLT, Int.reduceLE, Int.reduceAdd, Int.reduceSub, Int.reduceToNat, Int.reduceMul, Int.reduceMod, Int.reduceTMod, Int.reduceTDiv, Int.reduceEq, Nat.reducePow, Nat.reduceDiv, Nat.reduceShiftRight, Nat.reduceMod, List.reduceReplicate, ↓reduceIte, Nat.reduceEqDiff, Nat.reduceAdd, Nat.reduceSub, Nat.reduceLeDiff, Nat.reduceLT, Nat.reduceMul, hk, hn, hb, hfl, ec, hbig']
        rw [xorR, if_pos ⟨hk, hn⟩, if_pos hbig]
        obtain ⟨A, hAdef⟩ : ∃ A, A = xorB key nonce ctr msg := ⟨_, rfl⟩
        have hA : A.length = msg.length := by rw [hAdef, xorB_len]
        have hget : ∀ (i : Nat) (h : i < A.length) (h2 : i < msg.length), A[i] = msg[i] ^^^ ksAt key nonce ctr i := fun i h h2 => by
          subst hAdef; exact xorB_get key nonce ctr msg i h2
        have z1 := fillTo_zero A
        rw [hA] at z1
        rw [← z1, ← hAdef]
        refine kLoop_rec (fun (j : Nat) f H => f 3 = .slice 1 (msg.map byteRow) ∧ f 11 = .ptr 111 1 0 0 ∧ f 12 = .osl 137 1 0 msg.length ∧ f 13 = .int .i64 ((64 * j : Nat) : Int) ∧ H 111 = ⟨1, .live, 16, [(firstW key nonce (ctr + UInt32.ofNat j)).map w32], false⟩ ∧ H 137 = ⟨1, .live, 1, (fillTo A (min (64 * j) msg.length)).map byteRow, true⟩ ∧ (H 114).gen = j ∧ 64 * j < msg.length + 64) (fun j => msg.length + 64 - 64 * j) (fun _ => some (.tup [.usl 1 (A.map byteRow), .int .i64 0], [])) ?_ 0 _ _ ?_
        rotate_left
        · refine ⟨rfl, rfl, rfl, rfl, ?_, rfl, rfl, by omega⟩
          rw [show ctr + UInt32.ofNat 0 = ctr by simp]; rfl
        rintro j f H ⟨f3, f11, f12, f13, H111, H137, hg, hj⟩ ih
        have hfill := fillTo_len A (min (64 * j) msg.length) (by omega)
        by_cases hl : 64 * j < msg.length
        · have e : (if msg.length - 64 * j < 64 then ((msg.length - 64 * j : Nat) : Int) else 64) = ((min 64 (msg.length - 64 * j) : Nat) : Int) := by split <;> omega
          simp -implicitDefEqProofs -dsimp +contextual (maxSteps := 5000000) (disch := first | omega | simp only [go_sem] <;> omega | refine ib ?_; kernel_rfl) only [go_sem, Nat.reduceBEq, Int.reduceNeg, Int.reduceLT, Int.reduceLE, Int.reduceAdd, Int.reduceSub, Int.reduceToNat, Int.reduceMul, Int.reduceMod, Int.reduceTMod, Int.reduceTDiv, Int.reduceEq, Nat.reducePow, Nat.reduceDiv, Nat.reduceShiftRight, Nat.reduceMod, List.reduceReplicate, ↓reduceIte, Nat.reduceEqDiff, Nat.reduceAdd, Nat.reduceSub, Nat.reduceLeDiff, Nat.reduceLT, Nat.reduceMul, f3, f11, f12, f13, H111, H137, hg, hb, hfl, hl, e]
          refine (kLoop_rec (fun (k : Nat) f H => f 3 = .slice 1 (msg.map byteRow) ∧ f 11 = .ptr 111 1 0 0 ∧ f 12 = .osl 137 1 0 msg.length ∧ f 13 = .int .i64 ((64 * j : Nat) : Int) ∧ f 14 = .ptr 114 (j + 1) 0 0 ∧ f 50 = .int .i64 ((min 64 (msg.length - 64 * j) : Nat) : Int) ∧ f 51 = .int .i64 (k : Int) ∧ H 111 = ⟨1, .live, 16, [(firstW key nonce (ctr + UInt32.ofNat j)).map w32], false⟩ ∧ H 137 = ⟨1, .live, 1, (fillTo A (64 * j + k)).map byteRow, true⟩ ∧ H 114 = ⟨j + 1, .live, 64, [(blockB key nonce (ctr + UInt32.ofNat j)).map w8], false⟩ ∧ k ≤ min 64 (msg.length - 64 * j)) (fun k => 64 - k) (fun _ => some (.tup [.usl 1 (A.map byteRow), .int .i64 0], [])) ?_ 0 _ _ ?_)
          rotate_left
          · refine ⟨f3, f11, f12, f13, rfl, rfl, rfl, H111, ?_, rfl, by omega⟩
            rw [show 64 * j + 0 = min (64 * j) msg.length by omega]; exact H137
          clear f3 f11 f12 f13 H111 H137 hg hfill
          rintro k f H ⟨f3, f11, f12, f13, f14, f50, f51, H111, H137, H114, hk64⟩ ihk
          by_cases hkl : k < min 64 (msg.length - 64 * j)
          · have hfill := fillTo_len A (64 * j + k) (by omega)
            have hbl := blockB_len key nonce (ctr + UInt32.ofNat j)
            simp -implicitDefEqProofs -dsimp +contextual (maxSteps := 5000000) (disch := first | omega | simp only [go_sem] <;> omega | refine ib ?_; kernel_rfl) only [go_sem, Nat.reduceBEq, Int.reduceNeg, Int.reduceLT, Int.reduceLE, Int.reduceAdd, Int.reduceSub, Int.reduceToNat, Int.reduceMul, Int.reduceMod, Int.reduceTMod, Int.reduceTDiv, Int.reduceEq, Nat.reducePow, Nat.reduceDiv, Nat.reduceShiftRight, Nat.reduceMod, List.reduceReplicate, ↓reduceIte, Nat.reduceEqDiff, Nat.reduceAdd, Nat.reduceSub, Nat.reduceLeDiff, Nat.reduceLT, Nat.reduceMul, f3, f11, f12, f13, f14, f50, f51, H111, H137, H114, hkl, hfill, hbl]
            rw [← ks_block key nonce ctr j k (by omega), ← hget (64 * j + k) (by omega) (by omega), fillTo_set _ _ (by omega)]
            exact ihk (k + 1) _ _ ⟨f3, f11, f12, f13, f14, f50, rfl, H111, rfl, H114, by omega⟩ (by omega)
          · simp -implicitDefEqProofs -dsimp +contextual (maxSteps := 5000000) (disch := first | omega | simp only [go_sem] <;> omega | refine ib ?_; kernel_rfl) only [go_sem, Nat.reduceBEq, Int.reduceNeg, Int.reduceLT, Int.reduceLE, Int.reduceAdd, Int.reduceSub, Int.reduceToNat, Int.reduceMul, Int.reduceMod, Int.reduceTMod, Int.reduceTDiv, Int.reduceEq, Nat.reducePow, Nat.reduceDiv, Nat.reduceShiftRight, Nat.reduceMod, List.reduceReplicate, ↓reduceIte, Nat.reduceEqDiff, Nat.reduceAdd, Nat.reduceSub, Nat.reduceLeDiff, Nat.reduceLT, Nat.reduceMul, f3, f11, f12, f13, f14, f50, f51, H111, H137, H114, hkl]
            rw [firstW_12, firstW_up, show ctr + UInt32.ofNat j + 1 = ctr + UInt32.ofNat (j + 1) by rw [UInt32.ofNat_add, UInt32.add_assoc]; rfl]
            refine ih (j + 1) _ _ ⟨f3, f11, f12, rfl, rfl, ?_, ?_, by omega⟩ (by omega)
            · rw [show min (64 * (j + 1)) msg.length = 64 * j + k by omega]; exact H137
            · show (H 114).gen = _
              rw [H114]
        · have hfa := fillTo_all A msg.length (by omega)
          simp -implicitDefEqProofs -dsimp +contextual (maxSteps := 5000000) (disch := first | omega | simp only [go_sem] <;> omega | refine ib ?_; kernel_rfl) only [go_sem, Nat.reduceBEq, Int.reduceNeg, Int.reduceLT, Int.reduceLE, Int.reduceAdd, Int.reduceSub, Int.reduceToNat, Int.reduceMul, Int.reduceMod, Int.reduceTMod, Int.reduceTDiv, Int.reduceEq, Nat.reducePow, Nat.reduceDiv, Nat.reduceShiftRight, Nat.reduceMod, List.reduceReplicate, ↓reduceIte, Nat.reduceEqDiff, Nat.reduceAdd, Nat.reduceSub, Nat.reduceLeDiff, Nat.reduceLT, Nat.reduceMul, f3, f11, f12, f13, H111, H137, hg, hl, hfa, hA]
      · have hbig' : 4294967296 - ctr.toNat < (msg.length + 64 - 1) / 64 := by omega
        simp -implicitDefEqProofs -dsimp +contextual (maxSteps := 5000000) (disch := first | omega | simp only [go_sem] <;> omega | refine ib ?_; kernel_rfl) only [go_sem, Nat.reduceBEq, Int.reduceNeg, Int.reduceLT, Int.reduceLE, Int.reduceAdd, Int.reduceSub, Int.reduceToNat, Int.reduceMul, Int.reduceMod, Int.reduceTMod, Int.reduceTDiv, Int.reduceEq, Nat.reducePow, Nat.reduceDiv, Nat.reduceShiftRight, Nat.reduceMod, List.reduceReplicate, ↓reduceIte, Nat.reduceEqDiff, Nat.reduceAdd, Nat.reduceSub, Nat.reduceLeDiff, Nat.reduceLT, Nat.reduceMul, hk, hn, hb, ec, hbig']
        simp [xorR, hn, hk, hbig]
    · simp -implicitDefEqProofs -dsimp +contextual (maxSteps := 5000000) (disch := first | omega | simp only [go_sem] <;> omega | refine ib ?_; kernel_rfl) only [go_sem, Nat.reduceBEq, Int.reduceNeg, Int.reduceLT, Int.reduceLE, Int.reduceAdd, Int.reduceSub, Int.reduceToNat, Int.reduceMul, Int.reduceMod, Int.reduceTMod, Int.reduceTDiv, Int.reduceEq, Nat.reducePow, Nat.reduceDiv, Nat.reduceShiftRight, Nat.reduceMod, List.reduceReplicate, ↓reduceIte, Nat.reduceEqDiff, Nat.reduceAdd, Nat.reduceSub, Nat.reduceLeDiff, Nat.reduceLT, Nat.reduceMul, hk, hn]
      simp [xorR, hn]
  · simp -implicitDefEqProofs -dsimp +contextual (maxSteps := 5000000) (disch := first | omega | simp only [go_sem] <;> omega | refine ib ?_; kernel_rfl) only [go_sem, Nat.reduceBEq, Int.reduceNeg, Int.reduceLT, Int.reduceLE, Int.reduceAdd, Int.reduceSub, Int.reduceToNat, Int.reduceMul, Int.reduceMod, Int.reduceTMod, Int.reduceTDiv, Int.reduceEq, Nat.reducePow, Nat.reduceDiv, Nat.reduceShiftRight, Nat.reduceMod, List.reduceReplicate, ↓reduceIte, Nat.reduceEqDiff, Nat.reduceAdd, Nat.reduceSub, Nat.reduceLeDiff, Nat.reduceLT, Nat.reduceMul, hk]
    simp [xorR, hk]
end Go.Proofs.YtccfjidpdlfenaaDoor
namespace Go.Proofs.YtccfjidpdlfenaaDoor
open Go.Am
set_option linter.unusedSimpArgs false
set_option linter.unusedVariables false
set_option maxRecDepth 100000
/-! Layer 2: bytes held against one another. -/
def gatherB (l : List UInt8) : UInt8 := l.foldl (· ||| ·) 0
theorem or_zero8 (a b : UInt8) : a ||| b = 0 ↔ a = 0 ∧ b = 0 := by
  have h := @UInt8.toBitVec_inj (a ||| b) 0
  rw [← h, ← @UInt8.toBitVec_inj a 0, ← @UInt8.toBitVec_inj b 0]
  simp [UInt8.toBitVec_or]
theorem gather_foldl (l : List UInt8) : ∀ a : UInt8, l.foldl (· ||| ·) a = 0 ↔ a = 0 ∧ ∀ x ∈ l, x = 0 := by
  induction l with
  | nil => intro a; simp
  | cons x l ih => intro a; rw [List.foldl_cons, ih, or_zero8]; simp [and_assoc]
theorem gather_zero (l : List UInt8) : gatherB l = 0 ↔ ∀ x ∈ l, x = 0 := by rw [gatherB, gather_foldl]; simp

@[go_sem] theorem e166 (l : List UInt8) (hm : l.length ≤ 1000000000) : fn C 166 [] [.slice 1 (l.map byteRow)] = some (.int .u8 ((gatherB l).toNat : Int), []) := by
  rw [fn_text Tryd.func166 rfl rfl Tryd.results166 fq166.1 rfl rfl (by kernel_rfl)]
  simp -implicitDefEqProofs -dsimp +contextual (maxSteps := 9999999) (disch := first | omega | simp only [go_sem] <;> omega | refine ib ?_; kernel_rfl) only [go_sem, seval, ↓reduceIte]
  refine (kLoop_rec (fun i f H => f 3 = .int .u8 ((gatherB (l.take i)).toNat : Int) ∧ f 6 = .slice 1 (l.map byteRow) ∧ f 7 = .int .i64 l.length ∧ f 8 = .int .i64 (i : Nat) ∧ i ≤ l.length) (fun i => l.length - i) (fun _ => some (.int .u8 ((gatherB l).toNat : Int), [])) ?_ 0 _ _ ⟨rfl, rfl, rfl, rfl, by omega⟩)
  rintro i f H ⟨f3, f6, f7, f8, hi⟩ ih
  by_cases hl : i < l.length
  · simp -implicitDefEqProofs -dsimp +contextual (maxSteps := 9999999) (disch := first | omega | simp only [go_sem] <;> omega | refine ib ?_; kernel_rfl) only [go_sem, seval, ↓reduceIte, f3, f6, f7, f8, hl]
    refine ih (i + 1) _ _ ⟨?_, f6, f7, rfl, by omega⟩ (by omega)
    have e : gatherB (l.take (i + 1)) = gatherB (l.take i) ||| l[i] := by
      rw [List.take_succ_eq_append_getElem hl]; simp only [gatherB, List.foldl_append, List.foldl_cons, List.foldl_nil]
    rw [e]; rfl
  · obtain rfl : i = l.length := by omega
    simp -implicitDefEqProofs -dsimp +contextual (maxSteps := 9999999) (disch := first | omega | simp only [go_sem] <;> omega | refine ib ?_; kernel_rfl) only [go_sem, seval, ↓reduceIte, f3, f6, f7, f8, hl]

@[go_sem] theorem e150 (l : List UInt8) (hm : l.length ≤ 1000000000) : fn C 150 [] [.slice 1 (l.map byteRow)] = some (.bool (l.all (· == 0)), []) := by
  rw [fn_text Tryd.func150 rfl rfl Tryd.results150 fq150.1 rfl rfl (by kernel_rfl)]
  simp -implicitDefEqProofs -dsimp +contextual (maxSteps := 9999999) (disch := first | omega | simp only [go_sem] <;> omega | refine ib ?_; kernel_rfl) only [go_sem, seval, ↓reduceIte]
  refine Res_bool ?_
  rw [decide_eq_true_eq, List.all_eq_true]
  have := gather_zero l
  rw [← UInt8.toNat_inj] at this
  simpa using this

@[go_sem] theorem e151 (a b : List UInt8) (h : a.length = b.length) (hm : a.length ≤ 1000000000) : fn C 151 [] [.slice 1 (a.map byteRow), .slice 1 (b.map byteRow)] = some (.slice 1 ((List.zipWith (· ^^^ ·) a b).map byteRow), []) := by
  rw [fn_text Tryd.func151 rfl rfl Tryd.results151 fq151.1 rfl rfl (by kernel_rfl)]
  simp -implicitDefEqProofs -dsimp +contextual (maxSteps := 9999999) (disch := first | omega | simp only [go_sem] <;> omega | refine ib ?_; kernel_rfl) only [go_sem, seval, ↓reduceIte, h, ite_self]
  obtain ⟨A, hA⟩ : ∃ A, A = List.zipWith (· ^^^ ·) a b := ⟨_, rfl⟩
  have hl : A.length = b.length := by rw [hA]; simp [h]
  have hget : ∀ (i : Nat) (h1 : i < A.length) (h2 : i < a.length) (h3 : i < b.length), A[i] = a[i] ^^^ b[i] := fun i h1 h2 h3 => by subst hA; simp
  have z1 := fillTo_zero A
  rw [hl] at z1
  rw [← z1, ← hA]
  refine kLoop_rec (fun i f H => f 0 = .slice 1 (a.map byteRow) ∧ f 1 = .slice 1 (b.map byteRow) ∧ f 6 = .osl 114 1 0 b.length ∧ f 15 = .int .i64 b.length ∧ f 16 = .int .i64 (i : Nat) ∧ H 114 = ⟨1, .live, 1, (fillTo A i).map byteRow, true⟩ ∧ i ≤ b.length) (fun i => b.length - i) (fun _ => some (.slice 1 (A.map byteRow), [])) ?_ 0 _ _ ⟨rfl, rfl, rfl, rfl, rfl, rfl, by omega⟩
  rintro i f H ⟨f0, f1, f6, f15, f16, H114, hi⟩ ih
  have hf := fillTo_len A i (by omega)
  by_cases hlt : i < b.length
  · simp -implicitDefEqProofs -dsimp +contextual (maxSteps := 9999999) (disch := first | omega | simp only [go_sem] <;> omega | refine ib ?_; kernel_rfl) only [go_sem, seval, ↓reduceIte, f0, f1, f6, f15, f16, H114, hlt, hf]
    rw [← hget i (by omega) (by omega) hlt, fillTo_set _ _ (by omega)]
    exact ih (i + 1) _ _ ⟨f0, f1, f6, f15, rfl, rfl, by omega⟩ (by omega)
  · have e : fillTo A b.length = A := fillTo_all _ _ (by omega)
    obtain rfl : i = b.length := by omega
    simp -implicitDefEqProofs -dsimp +contextual (maxSteps := 9999999) (disch := first | omega | simp only [go_sem] <;> omega | refine ib ?_; kernel_rfl) only [go_sem, seval, ↓reduceIte, f0, f1, f6, f15, f16, H114, hlt, hf, e]

theorem xor_zip (a b : List UInt8) (h : a.length = b.length) : (List.zipWith (· ^^^ ·) a b).all (· == 0) = decide (a = b) := by
  induction a generalizing b with
  | nil => cases b <;> simp at h ⊢
  | cons x a ih =>
    cases b with
    | nil => simp at h
    | cons y b =>
      simp only [List.zipWith_cons_cons, List.all_cons, ih b (by simpa using h), List.cons.injEq]
      rw [Bool.eq_iff_iff]
      simp [UInt8.xor_eq_zero_iff]

@[go_sem] theorem e128 (a b : List UInt8) (hm : a.length ≤ 1000000000) : fn C 128 [] [.slice 1 (a.map byteRow), .slice 1 (b.map byteRow)] = some (.bool (decide (a = b)), []) := by
  rw [fn_text Tryd.func128 rfl rfl Tryd.results128 fq128.1 rfl rfl (by kernel_rfl)]
  by_cases h : a.length = b.length
  · have hz : (List.zipWith (· ^^^ ·) a b).length ≤ 1000000000 := by simp; omega
    simp -implicitDefEqProofs -dsimp +contextual (maxSteps := 9999999) (disch := first | omega | simp only [go_sem] <;> omega | refine ib ?_; kernel_rfl) only [go_sem, seval, ↓reduceIte, h]
    rw [xor_zip a b h]
  · simp -implicitDefEqProofs -dsimp +contextual (maxSteps := 9999999) (disch := first | omega | simp only [go_sem] <;> omega | refine ib ?_; kernel_rfl) only [go_sem, seval, ↓reduceIte, h]
    have : a ≠ b := fun e => h (by rw [e])
    simp [this]

end Go.Proofs.YtccfjidpdlfenaaDoor
namespace Go.Proofs.YtccfjidpdlfenaaDoor
open Go.Am
set_option linter.unusedSimpArgs false
set_option linter.unusedVariables false
set_option maxRecDepth 100000
/-! Layer 7: numbers of five parts. -/
structure Nm where
  a : Nat
  b : Nat
  c : Nat
  d : Nat
  e : Nat
def Nm.cs (n : Nm) : List AVal := [.int .u64 (n.a : Int), .int .u64 (n.b : Int), .int .u64 (n.c : Int), .int .u64 (n.d : Int), .int .u64 (n.e : Int)]
@[go_sem] theorem Nm.cs_eq (n : Nm) : n.cs = [.int .u64 (n.a : Int), .int .u64 (n.b : Int), .int .u64 (n.c : Int), .int .u64 (n.d : Int), .int .u64 (n.e : Int)] := rfl
def Nm.le (n : Nm) (m : Nat) : Prop := n.a ≤ m ∧ n.b ≤ m ∧ n.c ≤ m ∧ n.d ≤ m ∧ n.e ≤ m
def Nm.val (n : Nm) : Nat := n.a + n.b * 67108864 + n.c * 4503599627370496 + n.d * 302231454903657293676544 + n.e * 20282409603651670423947251286016
@[go_sem] theorem and26 (P : Program) (t : TypeId) (n : Nat) (h : n < 18446744073709551616) : binV P .and t (.int .u64 (n : Int)) (.int .u64 67108863) = some (.int .u64 ((n % 67108864 : Nat) : Int)) := by
  have e : binV P .and t (.int .u64 (n : Int)) (.int .u64 67108863) = some (.int .u64 (IntKind.u64.wrap (((BitVec.ofInt 64 (n : Int)) &&& (BitVec.ofInt 64 ((67108863 : Nat) : Int))).toNat : Int))) := rfl
  rw [e, BitVec.ofInt_natCast, BitVec.ofInt_natCast, BitVec.toNat_and, BitVec.toNat_ofNat, BitVec.toNat_ofNat, Nat.mod_eq_of_lt (show n < 2 ^ 64 by omega), show (67108863 : Nat) % 2 ^ 64 = 2 ^ 26 - 1 by decide, Nat.and_two_pow_sub_one_eq_mod, IntKind.wrap_u64]
  congr 2; omega

def carryN (n : Nm) : Nm :=
  let b := n.b + n.a / 67108864
  let c := n.c + b / 67108864
  let d := n.d + c / 67108864
  let e := n.e + d / 67108864
  let a := n.a % 67108864 + e / 67108864 * 5
  ⟨a % 67108864, b % 67108864 + a / 67108864, c % 67108864, d % 67108864, e % 67108864⟩
theorem carryN_val (n : Nm) : (carryN n).val + (n.e + (n.d + (n.c + (n.b + n.a / 67108864) / 67108864) / 67108864) / 67108864) / 67108864 * 1361129467683753853853498429727072845819 = n.val := by
  simp only [carryN, Nm.val]; omega
theorem carryN_le (n : Nm) (h : n.le 1152921504606846976) : (carryN n).a < 67108864 ∧ (carryN n).b < 67110864 ∧ (carryN n).c < 67108864 ∧ (carryN n).d < 67108864 ∧ (carryN n).e < 67108864 := by
  obtain ⟨h1, h2, h3, h4, h5⟩ := h
  simp only [carryN]; omega

set_option maxHeartbeats 4000000 in
@[go_sem] theorem e145 (a b c d e : Nat) (h1 : a ≤ 1152921504606846976) (h2 : b ≤ 1152921504606846976) (h3 : c ≤ 1152921504606846976) (h4 : d ≤ 1152921504606846976) (h5 : e ≤ 1152921504606846976) : fn C 145 [] [.agg [.int .u64 (a : Int), .int .u64 (b : Int), .int .u64 (c : Int), .int .u64 (d : Int), .int .u64 (e : Int)]] = some (.agg (carryN ⟨a, b, c, d, e⟩).cs, []) := by
  rw [fn_text Tryd.func145 rfl rfl Tryd.results145 fq145.1 rfl rfl (by kernel_rfl)]
  simp -implicitDefEqProofs -dsimp +contextual (maxSteps := 5000000) (disch := first | omega | simp only [go_sem] <;> omega | refine ib ?_; kernel_rfl) only [go_sem, Nat.reduceBEq, Int.reduceNeg, Int.reduceLT, Int.reduceLE, Int.reduceAdd, Int.reduceSub, Int.reduceToNat, Int.reduceMul, Int.reduceMod, Int.reduceTMod, Int.reduceTDiv, Int.reduceEq, Nat.reducePow, Nat.reduceDiv, Nat.reduceShiftRight, Nat.reduceMod, List.reduceReplicate, ↓reduceIte, Nat.reduceEqDiff, Nat.reduceAdd, Nat.reduceSub, Nat.reduceLeDiff, Nat.reduceLT, Nat.reduceMul, kLoop_eq]
  rfl

@[go_sem] theorem Nm.eta (n : Nm) : (⟨n.a, n.b, n.c, n.d, n.e⟩ : Nm) = n := rfl
def addN (n m : Nm) : Nm := ⟨n.a + m.a, n.b + m.b, n.c + m.c, n.d + m.d, n.e + m.e⟩
set_option maxHeartbeats 4000000 in
@[go_sem] theorem e146 (a b c d e a' b' c' d' e' : Nat) (h1 : a ≤ 1152921504606846976) (h2 : b ≤ 1152921504606846976) (h3 : c ≤ 1152921504606846976) (h4 : d ≤ 1152921504606846976) (h5 : e ≤ 1152921504606846976) (k1 : a' ≤ 1152921504606846976) (k2 : b' ≤ 1152921504606846976) (k3 : c' ≤ 1152921504606846976) (k4 : d' ≤ 1152921504606846976) (k5 : e' ≤ 1152921504606846976) : fn C 146 [] [.agg [.int .u64 (a : Int), .int .u64 (b : Int), .int .u64 (c : Int), .int .u64 (d : Int), .int .u64 (e : Int)], .agg [.int .u64 (a' : Int), .int .u64 (b' : Int), .int .u64 (c' : Int), .int .u64 (d' : Int), .int .u64 (e' : Int)]] = some (.agg (addN ⟨a, b, c, d, e⟩ ⟨a', b', c', d', e'⟩).cs, []) := by
  rw [fn_text Tryd.func146 rfl rfl Tryd.results146 fq146.1 rfl rfl (by kernel_rfl)]
  simp -implicitDefEqProofs -dsimp +contextual (maxSteps := 5000000) (disch := first | omega | simp only [go_sem] <;> omega | refine ib ?_; kernel_rfl) only [go_sem, Nat.reduceBEq, Int.reduceNeg, Int.reduceLT, Int.reduceLE, Int.reduceAdd, Int.reduceSub, Int.reduceToNat, Int.reduceMul, Int.reduceMod, Int.reduceTMod, Int.reduceTDiv, Int.reduceEq, Nat.reducePow, Nat.reduceDiv, Nat.reduceShiftRight, Nat.reduceMod, List.reduceReplicate, ↓reduceIte, Nat.reduceEqDiff, Nat.reduceAdd, Nat.reduceSub, Nat.reduceLeDiff, Nat.reduceLT, Nat.reduceMul, kLoop_eq]
  rfl

def carry5N (n : Nm) : Nm :=
  let a := n.a + 5
  let b := n.b + a / 67108864
  let c := n.c + b / 67108864
  let d := n.d + c / 67108864
  let e := n.e + d / 67108864
  ⟨a % 67108864, b % 67108864, c % 67108864, d % 67108864, e⟩
set_option maxHeartbeats 4000000 in
@[go_sem] theorem e165 (a b c d e : Nat) (h1 : a ≤ 1152921504606846976) (h2 : b ≤ 1152921504606846976) (h3 : c ≤ 1152921504606846976) (h4 : d ≤ 1152921504606846976) (h5 : e ≤ 1152921504606846976) : fn C 165 [] [.agg [.int .u64 (a : Int), .int .u64 (b : Int), .int .u64 (c : Int), .int .u64 (d : Int), .int .u64 (e : Int)]] = some (.agg (carry5N ⟨a, b, c, d, e⟩).cs, []) := by
  rw [fn_text Tryd.func165 rfl rfl Tryd.results165 fq165.1 rfl rfl (by kernel_rfl)]
  simp -implicitDefEqProofs -dsimp +contextual (maxSteps := 5000000) (disch := first | omega | simp only [go_sem] <;> omega | refine ib ?_; kernel_rfl) only [go_sem, Nat.reduceBEq, Int.reduceNeg, Int.reduceLT, Int.reduceLE, Int.reduceAdd, Int.reduceSub, Int.reduceToNat, Int.reduceMul, Int.reduceMod, Int.reduceTMod, Int.reduceTDiv, Int.reduceEq, Nat.reducePow, Nat.reduceDiv, Nat.reduceShiftRight, Nat.reduceMod, List.reduceReplicate, ↓reduceIte, Nat.reduceEqDiff, Nat.reduceAdd, Nat.reduceSub, Nat.reduceLeDiff, Nat.reduceLT, Nat.reduceMul, kLoop_eq]
  rfl

def timesP (n m : Nm) : Nm := ⟨n.a * m.a + n.b * m.e * 5 + n.c * m.d * 5 + n.d * m.c * 5 + n.e * m.b * 5, n.a * m.b + n.b * m.a + n.c * m.e * 5 + n.d * m.d * 5 + n.e * m.c * 5, n.a * m.c + n.b * m.b + n.c * m.a + n.d * m.e * 5 + n.e * m.d * 5, n.a * m.d + n.b * m.c + n.c * m.b + n.d * m.a + n.e * m.e * 5, n.a * m.e + n.b * m.d + n.c * m.c + n.d * m.b + n.e * m.a⟩
set_option maxHeartbeats 4000000 in
@[go_sem] theorem e144 (a b c d e a' b' c' d' e' : Nat) (h1 : a ≤ 67110864) (h2 : b ≤ 67110864) (h3 : c ≤ 67110864) (h4 : d ≤ 67110864) (h5 : e ≤ 67110864) (k1 : a' ≤ 67108864) (k2 : b' ≤ 67108864) (k3 : c' ≤ 67108864) (k4 : d' ≤ 67108864) (k5 : e' ≤ 67108864) : fn C 144 [] [.agg [.int .u64 (a : Int), .int .u64 (b : Int), .int .u64 (c : Int), .int .u64 (d : Int), .int .u64 (e : Int)], .agg [.int .u64 (a' : Int), .int .u64 (b' : Int), .int .u64 (c' : Int), .int .u64 (d' : Int), .int .u64 (e' : Int)]] = some (.agg (carryN (timesP ⟨a, b, c, d, e⟩ ⟨a', b', c', d', e'⟩)).cs, []) := by
  have paa : a * a' ≤ 4503733845098496 := Nat.le_trans (Nat.mul_le_mul h1 k1) (by decide)
  have pab : a * b' ≤ 4503733845098496 := Nat.le_trans (Nat.mul_le_mul h1 k2) (by decide)
  have pac : a * c' ≤ 4503733845098496 := Nat.le_trans (Nat.mul_le_mul h1 k3) (by decide)
  have pad : a * d' ≤ 4503733845098496 := Nat.le_trans (Nat.mul_le_mul h1 k4) (by decide)
  have pae : a * e' ≤ 4503733845098496 := Nat.le_trans (Nat.mul_le_mul h1 k5) (by decide)
  have pba : b * a' ≤ 4503733845098496 := Nat.le_trans (Nat.mul_le_mul h2 k1) (by decide)
  have pbb : b * b' ≤ 4503733845098496 := Nat.le_trans (Nat.mul_le_mul h2 k2) (by decide)
  have pbc : b * c' ≤ 4503733845098496 := Nat.le_trans (Nat.mul_le_mul h2 k3) (by decide)
  have pbd : b * d' ≤ 4503733845098496 := Nat.le_trans (Nat.mul_le_mul h2 k4) (by decide)
  have pbe : b * e' ≤ 4503733845098496 := Nat.le_trans (Nat.mul_le_mul h2 k5) (by decide)
  have pca : c * a' ≤ 4503733845098496 := Nat.le_trans (Nat.mul_le_mul h3 k1) (by decide)
  have pcb : c * b' ≤ 4503733845098496 := Nat.le_trans (Nat.mul_le_mul h3 k2) (by decide)
  have pcc : c * c' ≤ 4503733845098496 := Nat.le_trans (Nat.mul_le_mul h3 k3) (by decide)
  have pcd : c * d' ≤ 4503733845098496 := Nat.le_trans (Nat.mul_le_mul h3 k4) (by decide)
  have pce : c * e' ≤ 4503733845098496 := Nat.le_trans (Nat.mul_le_mul h3 k5) (by decide)
  have pda : d * a' ≤ 4503733845098496 := Nat.le_trans (Nat.mul_le_mul h4 k1) (by decide)
  have pdb : d * b' ≤ 4503733845098496 := Nat.le_trans (Nat.mul_le_mul h4 k2) (by decide)
  have pdc : d * c' ≤ 4503733845098496 := Nat.le_trans (Nat.mul_le_mul h4 k3) (by decide)
  have pdd : d * d' ≤ 4503733845098496 := Nat.le_trans (Nat.mul_le_mul h4 k4) (by decide)
  have pde : d * e' ≤ 4503733845098496 := Nat.le_trans (Nat.mul_le_mul h4 k5) (by decide)
  have pea : e * a' ≤ 4503733845098496 := Nat.le_trans (Nat.mul_le_mul h5 k1) (by decide)
  have peb : e * b' ≤ 4503733845098496 := Nat.le_trans (Nat.mul_le_mul h5 k2) (by decide)
  have pec : e * c' ≤ 4503733845098496 := Nat.le_trans (Nat.mul_le_mul h5 k3) (by decide)
  have ped : e * d' ≤ 4503733845098496 := Nat.le_trans (Nat.mul_le_mul h5 k4) (by decide)
  have pee : e * e' ≤ 4503733845098496 := Nat.le_trans (Nat.mul_le_mul h5 k5) (by decide)
  rw [fn_text Tryd.func144 rfl rfl Tryd.results144 fq144.1 rfl rfl (by kernel_rfl)]
  simp -implicitDefEqProofs -dsimp +contextual (maxSteps := 5000000) (disch := first | omega | simp only [go_sem] <;> omega | refine ib ?_; kernel_rfl) only [go_sem, Nat.reduceBEq, Int.reduceNeg, Int.reduceLT, Int.reduceLE, Int.reduceAdd, Int.reduceSub, Int.reduceToNat, Int.reduceMul, Int.reduceMod, Int.reduceTMod, Int.reduceTDiv, Int.reduceEq, Nat.reducePow, Nat.reduceDiv, Nat.reduceShiftRight, Nat.reduceMod, List.reduceReplicate, ↓reduceIte, Nat.reduceEqDiff, Nat.reduceAdd, Nat.reduceSub, Nat.reduceLeDiff, Nat.reduceLT, Nat.reduceMul, kLoop_eq]
  rfl

end Go.Proofs.YtccfjidpdlfenaaDoor
namespace Go.Proofs.YtccfjidpdlfenaaDoor
open Go.Am
set_option linter.unusedSimpArgs false
set_option linter.unusedVariables false
set_option maxRecDepth 100000
/-! Layer 7: bytes read as numbers. -/
theorem or_low (a x h : Nat) (ha : a < 2 ^ h) (hx : x % 2 ^ h = 0) : a ||| x = a + x := by
  have e : x = (x / 2 ^ h) * 2 ^ h := by have := Nat.div_add_mod x (2 ^ h); rw [hx, Nat.mul_comm] at this; omega
  rw [e, Nat.or_comm, orAdd _ _ _ ha, Nat.add_comm]
@[go_sem] theorem or_nat (P : Program) (t : TypeId) (a b : Nat) (ha : a < 18446744073709551616) (hb : b < 18446744073709551616) : binV P .or t (.int .u64 (a : Int)) (.int .u64 (b : Int)) = some (.int .u64 ((a ||| b : Nat) : Int)) := by
  have h := Nat.or_lt_two_pow (n := 64) ha hb
  show some (AVal.int .u64 (IntKind.u64.wrap (((BitVec.ofInt 64 (a : Int)) ||| (BitVec.ofInt 64 (b : Int))).toNat : Int))) = _
  rw [BitVec.ofInt_natCast, BitVec.ofInt_natCast, BitVec.toNat_or, BitVec.toNat_ofNat, BitVec.toNat_ofNat, Nat.mod_eq_of_lt ha, Nat.mod_eq_of_lt hb, IntKind.wrap_u64]; congr 2; omega
@[go_sem] theorem shl_nat (P : Program) (t : TypeId) (k : IntKind) (a m : Nat) (hm : m ≤ 64) (h : a * 2 ^ m < 18446744073709551616) : binV P .shl t (.int .u64 (a : Int)) (.int k (m : Int)) = some (.int .u64 ((a * 2 ^ m : Nat) : Int)) := by
  have e : ¬ ((m : Int) < 0) := by omega
  simp only [binV, isShift, if_true, shiftV, if_neg e, Int.toNat_natCast, IntKind.bits, Nat.min_eq_left hm]
  rw [IntKind.wrap_u64, show ((2 : Int) ^ m) = ((2 ^ m : Nat) : Int) by simp, ← Int.natCast_mul]; congr 2; omega
@[go_sem] theorem shl_lit (P : Program) (t : TypeId) (k : IntKind) (a m : Nat) (hm : OfNat.ofNat m ≤ 64) (h : a * 2 ^ (OfNat.ofNat m) < 18446744073709551616) : binV P .shl t (.int .u64 (a : Int)) (.int k (no_index (OfNat.ofNat m : Int))) = some (.int .u64 ((a * 2 ^ (OfNat.ofNat m) : Nat) : Int)) := shl_nat P t k a (OfNat.ofNat m) hm h
def leV : List UInt8 → Nat
  | [] => 0
  | b :: r => b.toNat + 256 * leV r
theorem leV_lt : ∀ l : List UInt8, leV l < 256 ^ l.length
  | [] => by simp [leV]
  | b :: r => by
    have h1 := leV_lt r
    have h2 := u8_lt b
    simp only [leV, List.length_cons, Nat.pow_succ]; omega
theorem leV_app : ∀ l m : List UInt8, leV (l ++ m) = leV l + 256 ^ l.length * leV m
  | [], m => by simp [leV]
  | b :: r, m => by
    have e := leV_app r m
    simp only [List.cons_append, leV, e, List.length_cons, Nat.pow_succ]
    rw [Nat.mul_add, Nat.mul_comm (256 ^ r.length) 256, ← Nat.mul_assoc]; omega
def readN (v : Nat) : Nm := ⟨v % 67108864, v / 67108864 % 67108864, v / 4503599627370496 % 67108864, v / 302231454903657293676544 % 67108864, v / 20282409603651670423947251286016 % 67108864⟩
theorem rd0 (v c : Nat) (hv : v < 1) (hc : c < 256) : (v % 67108864 ||| c % 67108864 = (v + c) % 67108864) ∧ (v / 67108864 % 67108864 ||| c / 67108864 = (v + c) / 67108864 % 67108864) ∧ (v / 4503599627370496 % 67108864 = (v + c) / 4503599627370496 % 67108864) ∧ (v / 302231454903657293676544 % 67108864 = (v + c) / 302231454903657293676544 % 67108864) ∧ (v / 20282409603651670423947251286016 % 67108864 = (v + c) / 20282409603651670423947251286016 % 67108864) :=
  ⟨by rw [or_low _ _ 0 (by omega) (by omega)]; omega, by rw [or_low _ _ 0 (by omega) (by omega)]; omega, by omega, by omega, by omega⟩
theorem rd1 (v c : Nat) (hv : v < 256) (hc : c < 256) : (v % 67108864 ||| c * 256 % 67108864 = (v + c * 256) % 67108864) ∧ (v / 67108864 % 67108864 ||| c * 256 / 67108864 = (v + c * 256) / 67108864 % 67108864) ∧ (v / 4503599627370496 % 67108864 = (v + c * 256) / 4503599627370496 % 67108864) ∧ (v / 302231454903657293676544 % 67108864 = (v + c * 256) / 302231454903657293676544 % 67108864) ∧ (v / 20282409603651670423947251286016 % 67108864 = (v + c * 256) / 20282409603651670423947251286016 % 67108864) :=
  ⟨by rw [or_low _ _ 8 (by omega) (by omega)]; omega, by rw [or_low _ _ 0 (by omega) (by omega)]; omega, by omega, by omega, by omega⟩
theorem rd2 (v c : Nat) (hv : v < 65536) (hc : c < 256) : (v % 67108864 ||| c * 65536 % 67108864 = (v + c * 65536) % 67108864) ∧ (v / 67108864 % 67108864 ||| c * 65536 / 67108864 = (v + c * 65536) / 67108864 % 67108864) ∧ (v / 4503599627370496 % 67108864 = (v + c * 65536) / 4503599627370496 % 67108864) ∧ (v / 302231454903657293676544 % 67108864 = (v + c * 65536) / 302231454903657293676544 % 67108864) ∧ (v / 20282409603651670423947251286016 % 67108864 = (v + c * 65536) / 20282409603651670423947251286016 % 67108864) :=
  ⟨by rw [or_low _ _ 16 (by omega) (by omega)]; omega, by rw [or_low _ _ 0 (by omega) (by omega)]; omega, by omega, by omega, by omega⟩
theorem rd3 (v c : Nat) (hv : v < 16777216) (hc : c < 256) : (v % 67108864 ||| c * 16777216 % 67108864 = (v + c * 16777216) % 67108864) ∧ (v / 67108864 % 67108864 ||| c * 16777216 / 67108864 = (v + c * 16777216) / 67108864 % 67108864) ∧ (v / 4503599627370496 % 67108864 = (v + c * 16777216) / 4503599627370496 % 67108864) ∧ (v / 302231454903657293676544 % 67108864 = (v + c * 16777216) / 302231454903657293676544 % 67108864) ∧ (v / 20282409603651670423947251286016 % 67108864 = (v + c * 16777216) / 20282409603651670423947251286016 % 67108864) :=
  ⟨by rw [or_low _ _ 24 (by omega) (by omega)]; omega, by rw [or_low _ _ 0 (by omega) (by omega)]; omega, by omega, by omega, by omega⟩
theorem rd4 (v c : Nat) (hv : v < 4294967296) (hc : c < 256) : (v % 67108864 = (v + c * 4294967296) % 67108864) ∧ (v / 67108864 % 67108864 ||| c * 64 % 67108864 = (v + c * 4294967296) / 67108864 % 67108864) ∧ (v / 4503599627370496 % 67108864 ||| c * 64 / 67108864 = (v + c * 4294967296) / 4503599627370496 % 67108864) ∧ (v / 302231454903657293676544 % 67108864 = (v + c * 4294967296) / 302231454903657293676544 % 67108864) ∧ (v / 20282409603651670423947251286016 % 67108864 = (v + c * 4294967296) / 20282409603651670423947251286016 % 67108864) :=
  ⟨by omega, by rw [or_low _ _ 6 (by omega) (by omega)]; omega, by rw [or_low _ _ 0 (by omega) (by omega)]; omega, by omega, by omega⟩
theorem rd5 (v c : Nat) (hv : v < 1099511627776) (hc : c < 256) : (v % 67108864 = (v + c * 1099511627776) % 67108864) ∧ (v / 67108864 % 67108864 ||| c * 16384 % 67108864 = (v + c * 1099511627776) / 67108864 % 67108864) ∧ (v / 4503599627370496 % 67108864 ||| c * 16384 / 67108864 = (v + c * 1099511627776) / 4503599627370496 % 67108864) ∧ (v / 302231454903657293676544 % 67108864 = (v + c * 1099511627776) / 302231454903657293676544 % 67108864) ∧ (v / 20282409603651670423947251286016 % 67108864 = (v + c * 1099511627776) / 20282409603651670423947251286016 % 67108864) :=
  ⟨by omega, by rw [or_low _ _ 14 (by omega) (by omega)]; omega, by rw [or_low _ _ 0 (by omega) (by omega)]; omega, by omega, by omega⟩
theorem rd6 (v c : Nat) (hv : v < 281474976710656) (hc : c < 256) : (v % 67108864 = (v + c * 281474976710656) % 67108864) ∧ (v / 67108864 % 67108864 ||| c * 4194304 % 67108864 = (v + c * 281474976710656) / 67108864 % 67108864) ∧ (v / 4503599627370496 % 67108864 ||| c * 4194304 / 67108864 = (v + c * 281474976710656) / 4503599627370496 % 67108864) ∧ (v / 302231454903657293676544 % 67108864 = (v + c * 281474976710656) / 302231454903657293676544 % 67108864) ∧ (v / 20282409603651670423947251286016 % 67108864 = (v + c * 281474976710656) / 20282409603651670423947251286016 % 67108864) :=
  ⟨by omega, by rw [or_low _ _ 22 (by omega) (by omega)]; omega, by rw [or_low _ _ 0 (by omega) (by omega)]; omega, by omega, by omega⟩
theorem rd7 (v c : Nat) (hv : v < 72057594037927936) (hc : c < 256) : (v % 67108864 = (v + c * 72057594037927936) % 67108864) ∧ (v / 67108864 % 67108864 = (v + c * 72057594037927936) / 67108864 % 67108864) ∧ (v / 4503599627370496 % 67108864 ||| c * 16 % 67108864 = (v + c * 72057594037927936) / 4503599627370496 % 67108864) ∧ (v / 302231454903657293676544 % 67108864 ||| c * 16 / 67108864 = (v + c * 72057594037927936) / 302231454903657293676544 % 67108864) ∧ (v / 20282409603651670423947251286016 % 67108864 = (v + c * 72057594037927936) / 20282409603651670423947251286016 % 67108864) :=
  ⟨by omega, by omega, by rw [or_low _ _ 4 (by omega) (by omega)]; omega, by rw [or_low _ _ 0 (by omega) (by omega)]; omega, by omega⟩
theorem rd8 (v c : Nat) (hv : v < 18446744073709551616) (hc : c < 256) : (v % 67108864 = (v + c * 18446744073709551616) % 67108864) ∧ (v / 67108864 % 67108864 = (v + c * 18446744073709551616) / 67108864 % 67108864) ∧ (v / 4503599627370496 % 67108864 ||| c * 4096 % 67108864 = (v + c * 18446744073709551616) / 4503599627370496 % 67108864) ∧ (v / 302231454903657293676544 % 67108864 ||| c * 4096 / 67108864 = (v + c * 18446744073709551616) / 302231454903657293676544 % 67108864) ∧ (v / 20282409603651670423947251286016 % 67108864 = (v + c * 18446744073709551616) / 20282409603651670423947251286016 % 67108864) :=
  ⟨by omega, by omega, by rw [or_low _ _ 12 (by omega) (by omega)]; omega, by rw [or_low _ _ 0 (by omega) (by omega)]; omega, by omega⟩
theorem rd9 (v c : Nat) (hv : v < 4722366482869645213696) (hc : c < 256) : (v % 67108864 = (v + c * 4722366482869645213696) % 67108864) ∧ (v / 67108864 % 67108864 = (v + c * 4722366482869645213696) / 67108864 % 67108864) ∧ (v / 4503599627370496 % 67108864 ||| c * 1048576 % 67108864 = (v + c * 4722366482869645213696) / 4503599627370496 % 67108864) ∧ (v / 302231454903657293676544 % 67108864 ||| c * 1048576 / 67108864 = (v + c * 4722366482869645213696) / 302231454903657293676544 % 67108864) ∧ (v / 20282409603651670423947251286016 % 67108864 = (v + c * 4722366482869645213696) / 20282409603651670423947251286016 % 67108864) :=
  ⟨by omega, by omega, by rw [or_low _ _ 20 (by omega) (by omega)]; omega, by rw [or_low _ _ 0 (by omega) (by omega)]; omega, by omega⟩
theorem rd10 (v c : Nat) (hv : v < 1208925819614629174706176) (hc : c < 256) : (v % 67108864 = (v + c * 1208925819614629174706176) % 67108864) ∧ (v / 67108864 % 67108864 = (v + c * 1208925819614629174706176) / 67108864 % 67108864) ∧ (v / 4503599627370496 % 67108864 = (v + c * 1208925819614629174706176) / 4503599627370496 % 67108864) ∧ (v / 302231454903657293676544 % 67108864 ||| c * 4 % 67108864 = (v + c * 1208925819614629174706176) / 302231454903657293676544 % 67108864) ∧ (v / 20282409603651670423947251286016 % 67108864 ||| c * 4 / 67108864 = (v + c * 1208925819614629174706176) / 20282409603651670423947251286016 % 67108864) :=
  ⟨by omega, by omega, by omega, by rw [or_low _ _ 2 (by omega) (by omega)]; omega, by rw [or_low _ _ 0 (by omega) (by omega)]; omega⟩
theorem rd11 (v c : Nat) (hv : v < 309485009821345068724781056) (hc : c < 256) : (v % 67108864 = (v + c * 309485009821345068724781056) % 67108864) ∧ (v / 67108864 % 67108864 = (v + c * 309485009821345068724781056) / 67108864 % 67108864) ∧ (v / 4503599627370496 % 67108864 = (v + c * 309485009821345068724781056) / 4503599627370496 % 67108864) ∧ (v / 302231454903657293676544 % 67108864 ||| c * 1024 % 67108864 = (v + c * 309485009821345068724781056) / 302231454903657293676544 % 67108864) ∧ (v / 20282409603651670423947251286016 % 67108864 ||| c * 1024 / 67108864 = (v + c * 309485009821345068724781056) / 20282409603651670423947251286016 % 67108864) :=
  ⟨by omega, by omega, by omega, by rw [or_low _ _ 10 (by omega) (by omega)]; omega, by rw [or_low _ _ 0 (by omega) (by omega)]; omega⟩
theorem rd12 (v c : Nat) (hv : v < 79228162514264337593543950336) (hc : c < 256) : (v % 67108864 = (v + c * 79228162514264337593543950336) % 67108864) ∧ (v / 67108864 % 67108864 = (v + c * 79228162514264337593543950336) / 67108864 % 67108864) ∧ (v / 4503599627370496 % 67108864 = (v + c * 79228162514264337593543950336) / 4503599627370496 % 67108864) ∧ (v / 302231454903657293676544 % 67108864 ||| c * 262144 % 67108864 = (v + c * 79228162514264337593543950336) / 302231454903657293676544 % 67108864) ∧ (v / 20282409603651670423947251286016 % 67108864 ||| c * 262144 / 67108864 = (v + c * 79228162514264337593543950336) / 20282409603651670423947251286016 % 67108864) :=
  ⟨by omega, by omega, by omega, by rw [or_low _ _ 18 (by omega) (by omega)]; omega, by rw [or_low _ _ 0 (by omega) (by omega)]; omega⟩
theorem rd13 (v c : Nat) (hv : v < 20282409603651670423947251286016) (hc : c < 256) : (v % 67108864 = (v + c * 20282409603651670423947251286016) % 67108864) ∧ (v / 67108864 % 67108864 = (v + c * 20282409603651670423947251286016) / 67108864 % 67108864) ∧ (v / 4503599627370496 % 67108864 = (v + c * 20282409603651670423947251286016) / 4503599627370496 % 67108864) ∧ (v / 302231454903657293676544 % 67108864 = (v + c * 20282409603651670423947251286016) / 302231454903657293676544 % 67108864) ∧ (v / 20282409603651670423947251286016 % 67108864 ||| c % 67108864 = (v + c * 20282409603651670423947251286016) / 20282409603651670423947251286016 % 67108864) :=
  ⟨by omega, by omega, by omega, by omega, by rw [or_low _ _ 0 (by omega) (by omega)]; omega⟩
theorem rd14 (v c : Nat) (hv : v < 5192296858534827628530496329220096) (hc : c < 256) : (v % 67108864 = (v + c * 5192296858534827628530496329220096) % 67108864) ∧ (v / 67108864 % 67108864 = (v + c * 5192296858534827628530496329220096) / 67108864 % 67108864) ∧ (v / 4503599627370496 % 67108864 = (v + c * 5192296858534827628530496329220096) / 4503599627370496 % 67108864) ∧ (v / 302231454903657293676544 % 67108864 = (v + c * 5192296858534827628530496329220096) / 302231454903657293676544 % 67108864) ∧ (v / 20282409603651670423947251286016 % 67108864 ||| c * 256 % 67108864 = (v + c * 5192296858534827628530496329220096) / 20282409603651670423947251286016 % 67108864) :=
  ⟨by omega, by omega, by omega, by omega, by rw [or_low _ _ 8 (by omega) (by omega)]; omega⟩
theorem rd15 (v c : Nat) (hv : v < 1329227995784915872903807060280344576) (hc : c < 256) : (v % 67108864 = (v + c * 1329227995784915872903807060280344576) % 67108864) ∧ (v / 67108864 % 67108864 = (v + c * 1329227995784915872903807060280344576) / 67108864 % 67108864) ∧ (v / 4503599627370496 % 67108864 = (v + c * 1329227995784915872903807060280344576) / 4503599627370496 % 67108864) ∧ (v / 302231454903657293676544 % 67108864 = (v + c * 1329227995784915872903807060280344576) / 302231454903657293676544 % 67108864) ∧ (v / 20282409603651670423947251286016 % 67108864 ||| c * 65536 % 67108864 = (v + c * 1329227995784915872903807060280344576) / 20282409603651670423947251286016 % 67108864) :=
  ⟨by omega, by omega, by omega, by omega, by rw [or_low _ _ 16 (by omega) (by omega)]; omega⟩
theorem rd16 (v c : Nat) (hv : v < 340282366920938463463374607431768211456) (hc : c < 256) : (v % 67108864 = (v + c * 340282366920938463463374607431768211456) % 67108864) ∧ (v / 67108864 % 67108864 = (v + c * 340282366920938463463374607431768211456) / 67108864 % 67108864) ∧ (v / 4503599627370496 % 67108864 = (v + c * 340282366920938463463374607431768211456) / 4503599627370496 % 67108864) ∧ (v / 302231454903657293676544 % 67108864 = (v + c * 340282366920938463463374607431768211456) / 302231454903657293676544 % 67108864) ∧ (v / 20282409603651670423947251286016 % 67108864 ||| c * 16777216 % 67108864 = (v + c * 340282366920938463463374607431768211456) / 20282409603651670423947251286016 % 67108864) :=
  ⟨by omega, by omega, by omega, by omega, by rw [or_low _ _ 24 (by omega) (by omega)]; omega⟩

@[go_sem] theorem e164 (i : Nat) (h : i ≤ 1000) : fn C 164 [] [.int .i64 (i : Int)] = some (.tup [.int .i64 ((8 * i / 26 : Nat) : Int), .int .i64 ((8 * i % 26 : Nat) : Int)], []) := by
  rw [fn_text Tryd.func164 rfl rfl Tryd.results164 fq164.1 rfl rfl (by kernel_rfl)]
  simp -implicitDefEqProofs -dsimp +contextual (maxSteps := 5000000) (disch := first | omega | simp only [go_sem] <;> omega | refine ib ?_; kernel_rfl) only [go_sem, Nat.reduceBEq, Int.reduceNeg, Int.reduceLT, Int.reduceLE, Int.reduceAdd, Int.reduceSub, Int.reduceToNat, Int.reduceMul, Int.reduceMod, Int.reduceTMod, Int.reduceTDiv, Int.reduceEq, Nat.reducePow, Nat.reduceDiv, Nat.reduceShiftRight, Nat.reduceMod, List.reduceReplicate, ↓reduceIte, Nat.reduceEqDiff, Nat.reduceAdd, Nat.reduceSub, Nat.reduceLeDiff, Nat.reduceLT, Nat.reduceMul]

@[go_sem] theorem ebit_lit (i : Nat) (h : OfNat.ofNat i ≤ 1000) : fn C 164 [] [.int .i64 (no_index (OfNat.ofNat i : Int))] = some (.tup [.int .i64 ((8 * (OfNat.ofNat i) / 26 : Nat) : Int), .int .i64 ((8 * (OfNat.ofNat i) % 26 : Nat) : Int)], []) := e164 (OfNat.ofNat i) h


end Go.Proofs.YtccfjidpdlfenaaDoor
