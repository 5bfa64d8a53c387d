import Derived.Test.YtclgfgnhcakhdaaGreatDoorDn6
namespace Go.Am
set_option linter.unusedSectionVars false
set_option linter.unusedVariables false
set_option linter.unusedSimpArgs false
theorem u8_lt (x : UInt8) : x.toNat < 256 := x.toNat_lt
theorem u32_lt (x : UInt32) : x.toNat < 4294967296 := x.toNat_lt
def W8.shl (x : UInt8) (n : Nat) : UInt8 := UInt8.ofNat (x.toNat * 2 ^ n)
def W8.shr (x : UInt8) (n : Nat) : UInt8 := UInt8.ofNat (x.toNat / 2 ^ n)
def w8 (x : UInt8) : AVal := .int .u8 (x.toNat : Int)
theorem w8_eq (x : UInt8) : w8 x = .int .u8 (x.toNat : Int) := rfl
theorem u8_wrap (m : Nat) : IntKind.u8.wrap (m : Int) = ((UInt8.ofNat m).toNat : Int) := by
  rw [IntKind.wrap_u8, UInt8.toNat_ofNat']; omega
theorem u8_from32 (x : UInt32) : IntKind.u8.wrap (x.toNat : Int) = ((x.toUInt8).toNat : Int) := by
  have h1 := u32_lt x
  rw [IntKind.wrap_u8]; simp; try omega
def W32.shl (x : UInt32) (n : Nat) : UInt32 := UInt32.ofNat (x.toNat * 2 ^ n)
def W32.shr (x : UInt32) (n : Nat) : UInt32 := UInt32.ofNat (x.toNat / 2 ^ n)
def w32 (x : UInt32) : AVal := .int .u32 (x.toNat : Int)
theorem w32_eq (x : UInt32) : w32 x = .int .u32 (x.toNat : Int) := rfl
theorem u32_addn (x y : UInt32) : IntKind.u32.wrap ((x.toNat + y.toNat : Nat) : Int) = ((x + y).toNat : Int) := by
  rw [IntKind.wrap_u32, UInt32.toNat_add]; omega
theorem u32_mull (x : UInt32) (m : Nat) : IntKind.u32.wrap ((x.toNat : Int) * (no_index (OfNat.ofNat m : Int))) = ((x * UInt32.ofNat (OfNat.ofNat m)).toNat : Int) := by
  rw [IntKind.wrap_u32, UInt32.toNat_mul, UInt32.toNat_ofNat']; show ((x.toNat : Int) * ((OfNat.ofNat m : Nat) : Int)) % 4294967296 = _; rw [← Int.natCast_mul, Nat.mul_mod, Nat.mod_mod, ← Nat.mul_mod]; omega
theorem u32_mulnl (x : UInt32) (m : Nat) : IntKind.u32.wrap ((x.toNat * (no_index (OfNat.ofNat m : Nat)) : Nat) : Int) = ((x * UInt32.ofNat (OfNat.ofNat m)).toNat : Int) := u32_mull x m
theorem u32_and (P : Program) (t : TypeId) (x y : UInt32) : binV P .and t (.int .u32 (x.toNat : Int)) (.int .u32 (y.toNat : Int)) = some (.int .u32 ((x &&& y).toNat : Int)) := by
  have h1 := u32_lt x; have h2 := u32_lt y
  have hl := (x &&& y).toNat_lt
  rw [UInt32.toNat_and] at hl
  show some (AVal.int .u32 (IntKind.u32.wrap (((BitVec.ofInt 32 (x.toNat : Int)) &&& (BitVec.ofInt 32 (y.toNat : Int))).toNat : Int))) = _
  rw [BitVec.ofInt_natCast, BitVec.ofInt_natCast, BitVec.toNat_and, BitVec.toNat_ofNat, BitVec.toNat_ofNat, UInt32.toNat_and]
  rw [Nat.mod_eq_of_lt h1, Nat.mod_eq_of_lt h2, IntKind.wrap_u32]; congr 2; omega
theorem u32_or (P : Program) (t : TypeId) (x y : UInt32) : binV P .or t (.int .u32 (x.toNat : Int)) (.int .u32 (y.toNat : Int)) = some (.int .u32 ((x ||| y).toNat : Int)) := by
  have h1 := u32_lt x; have h2 := u32_lt y
  have hl := (x ||| y).toNat_lt
  rw [UInt32.toNat_or] at hl
  show some (AVal.int .u32 (IntKind.u32.wrap (((BitVec.ofInt 32 (x.toNat : Int)) ||| (BitVec.ofInt 32 (y.toNat : Int))).toNat : Int))) = _
  rw [BitVec.ofInt_natCast, BitVec.ofInt_natCast, BitVec.toNat_or, BitVec.toNat_ofNat, BitVec.toNat_ofNat, UInt32.toNat_or]
  rw [Nat.mod_eq_of_lt h1, Nat.mod_eq_of_lt h2, IntKind.wrap_u32]; congr 2; omega
theorem u32_xor (P : Program) (t : TypeId) (x y : UInt32) : binV P .xor t (.int .u32 (x.toNat : Int)) (.int .u32 (y.toNat : Int)) = some (.int .u32 ((x ^^^ y).toNat : Int)) := by
  have h1 := u32_lt x; have h2 := u32_lt y
  have hl := (x ^^^ y).toNat_lt
  rw [UInt32.toNat_xor] at hl
  show some (AVal.int .u32 (IntKind.u32.wrap (((BitVec.ofInt 32 (x.toNat : Int)) ^^^ (BitVec.ofInt 32 (y.toNat : Int))).toNat : Int))) = _
  rw [BitVec.ofInt_natCast, BitVec.ofInt_natCast, BitVec.toNat_xor, BitVec.toNat_ofNat, BitVec.toNat_ofNat, UInt32.toNat_xor]
  rw [Nat.mod_eq_of_lt h1, Nat.mod_eq_of_lt h2, IntKind.wrap_u32]; congr 2; omega
theorem u32_shlN (P : Program) (t : TypeId) (x : UInt32) (k : IntKind) (m : Nat) : binV P .shl t (.int .u32 (x.toNat : Int)) (.int k (m : Int)) = some (.int .u32 ((W32.shl x m).toNat : Int)) := by
  have e : ¬ ((m : Int) < 0) := by omega
  simp only [binV, isShift, if_true, shiftV, if_neg e, Int.toNat_natCast, IntKind.bits]
  rw [IntKind.wrap_u32, W32.shl, UInt32.toNat_ofNat']
  congr 2
  by_cases hm : m ≤ 32
  · rw [Nat.min_eq_left hm, show ((2 : Int) ^ m) = ((2 ^ m : Nat) : Int) by simp, ← Int.natCast_mul]; omega
  · rw [Nat.min_eq_right (by omega)]
    have e1 : (2 : Nat) ^ m = 4294967296 * 2 ^ (m - 32) := by rw [show (4294967296 : Nat) = 2 ^ 32 by decide, ← Nat.pow_add]; congr 1; omega
    rw [e1]
    have e2 : x.toNat * (4294967296 * 2 ^ (m - 32)) % 2 ^ 32 = 0 := by rw [show (2:Nat) ^ 32 = 4294967296 by decide, Nat.mul_left_comm]; exact Nat.mul_mod_right ..
    rw [e2, show ((2 : Int) ^ 32) = 4294967296 by decide]; omega
theorem u32_shrN (P : Program) (t : TypeId) (x : UInt32) (k : IntKind) (m : Nat) : binV P .shr t (.int .u32 (x.toNat : Int)) (.int k (m : Int)) = some (.int .u32 ((W32.shr x m).toNat : Int)) := by
  have e : ¬ ((m : Int) < 0) := by omega
  have hx := u32_lt x
  have hd : x.toNat / 2 ^ m < 4294967296 := Nat.lt_of_le_of_lt (Nat.div_le_self ..) hx
  simp only [binV, isShift, if_true, shiftV, if_neg e, Int.toNat_natCast, IntKind.bits]
  rw [W32.shr, UInt32.toNat_ofNat', Nat.mod_eq_of_lt hd]
  congr 2
  by_cases hm : m ≤ 32
  · rw [Nat.min_eq_left hm, show ((2 : Int) ^ m) = ((2 ^ m : Nat) : Int) by simp, ← Int.ofNat_fdiv]
  · rw [Nat.min_eq_right (by omega)]
    have e1 : 4294967296 ≤ (2 : Nat) ^ m := by rw [show (4294967296 : Nat) = 2 ^ 32 by decide]; exact Nat.pow_le_pow_right (by omega) (by omega)
    rw [Nat.div_eq_of_lt (by omega), show ((2 : Int) ^ 32) = ((4294967296 : Nat) : Int) by decide, ← Int.ofNat_fdiv, Nat.div_eq_of_lt hx]
theorem u32_shll (P : Program) (t : TypeId) (x : UInt32) (k : IntKind) (m : Nat) : binV P .shl t (.int .u32 (x.toNat : Int)) (.int k (no_index (OfNat.ofNat m : Int))) = some (.int .u32 ((W32.shl x (OfNat.ofNat m)).toNat : Int)) := u32_shlN P t x k (OfNat.ofNat m)
theorem u32_shrl (P : Program) (t : TypeId) (x : UInt32) (k : IntKind) (m : Nat) : binV P .shr t (.int .u32 (x.toNat : Int)) (.int k (no_index (OfNat.ofNat m : Int))) = some (.int .u32 ((W32.shr x (OfNat.ofNat m)).toNat : Int)) := u32_shrN P t x k (OfNat.ofNat m)
theorem u32_not (x : UInt32) : unV .xor (.int .u32 (x.toNat : Int)) = some (.int .u32 ((~~~x).toNat : Int)) := by
  have h1 := u32_lt x
  have e : (IntKind.u32.max : Int) = ((4294967295 : Nat) : Int) := by decide
  have e2 : (IntKind.u32).signed = false := rfl
  show some (AVal.int .u32 (IntKind.u32.wrap (((BitVec.ofInt 32 IntKind.u32.max) ^^^ (BitVec.ofInt 32 (x.toNat : Int))).toNat : Int))) = _
  rw [e, BitVec.ofInt_natCast, BitVec.ofInt_natCast, BitVec.toNat_xor, BitVec.toNat_ofNat, BitVec.toNat_ofNat]
  rw [Nat.mod_eq_of_lt h1, show (4294967295 : Nat) % 2 ^ 32 = 2 ^ 32 - 1 by decide, Nat.xor_comm, ← BitVec.toNat_allOnes, show x.toNat = x.toBitVec.toNat from rfl, ← BitVec.toNat_xor, BitVec.xor_allOnes]
  have h3 := (~~~x).toNat_lt
  have h4 : (~~~x.toBitVec).toNat = (~~~x).toNat := by simp
  rw [h4, IntKind.wrap_u32]; congr 2; omega
theorem u32_from8 (x : UInt8) : IntKind.u32.wrap (x.toNat : Int) = ((x.toUInt32).toNat : Int) := by
  have h1 := u8_lt x
  rw [IntKind.wrap_u32]; simp; try omega
theorem u32_id (x : UInt32) : IntKind.u32.wrap (x.toNat : Int) = (x.toNat : Int) := by
  have h1 := u32_lt x
  rw [IntKind.wrap_u32]; omega
theorem u32_divid (x : UInt32) (m : Nat) : IntKind.u32.wrap ((x.toNat / m : Nat) : Int) = ((x.toNat / m : Nat) : Int) := by
  have h1 := u32_lt x
  have h2 := Nat.div_le_self x.toNat m
  generalize x.toNat / m = q at *
  rw [IntKind.wrap_u32]; omega
def W64.shl (x : UInt64) (n : Nat) : UInt64 := UInt64.ofNat (x.toNat * 2 ^ n)
def W64.shr (x : UInt64) (n : Nat) : UInt64 := UInt64.ofNat (x.toNat / 2 ^ n)
def w64 (x : UInt64) : AVal := .int .u64 (x.toNat : Int)
theorem w64_eq (x : UInt64) : w64 x = .int .u64 (x.toNat : Int) := rfl
theorem u64_from8 (x : UInt8) : IntKind.u64.wrap (x.toNat : Int) = ((x.toUInt64).toNat : Int) := by
  have h1 := u8_lt x
  rw [IntKind.wrap_u64]; simp; try omega
theorem tdiv_lit (a m : Nat) : Int.tdiv (a : Int) (no_index (OfNat.ofNat m : Int)) = ((a / (OfNat.ofNat m) : Nat) : Int) := rfl
theorem tmod_lit (a m : Nat) : Int.tmod (a : Int) (no_index (OfNat.ofNat m : Int)) = ((a % (OfNat.ofNat m) : Nat) : Int) := rfl
theorem tdiv_nat (a m : Nat) : Int.tdiv (a : Int) (m : Int) = ((a / m : Nat) : Int) := rfl
theorem tmod_nat (a m : Nat) : Int.tmod (a : Int) (m : Int) = ((a % m : Nat) : Int) := rfl
theorem mul_lit (a m : Nat) : (no_index (OfNat.ofNat m : Int)) * (a : Int) = (((OfNat.ofNat m) * a : Nat) : Int) := rfl
theorem lit_mul (a m : Nat) : (a : Int) * (no_index (OfNat.ofNat m : Int)) = ((a * (OfNat.ofNat m) : Nat) : Int) := rfl
theorem add_lit (a m : Nat) : (no_index (OfNat.ofNat m : Int)) + (a : Int) = (((OfNat.ofNat m) + a : Nat) : Int) := rfl
theorem lit_add (a m : Nat) : (a : Int) + (no_index (OfNat.ofNat m : Int)) = ((a + (OfNat.ofNat m) : Nat) : Int) := rfl
theorem cast_mul (a b : Nat) : ((a : Int) * (b : Int)) = ((a * b : Nat) : Int) := rfl
theorem shr_nat (P : Program) (t : TypeId) (k k' : IntKind) (a m : Nat) (h : m ≤ k.bits) : binV P .shr t (.int k (a : Int)) (.int k' (m : Int)) = some (.int k ((a / 2 ^ m : Nat) : Int)) := by
  have e : ¬ ((m : Int) < 0) := by omega
  simp only [binV, isShift, if_true, shiftV, if_neg e, Int.toNat_natCast, Nat.min_eq_left h]
  rw [show ((2 : Int) ^ m) = ((2 ^ m : Nat) : Int) by simp, ← Int.ofNat_fdiv]
theorem shr_lit (P : Program) (t : TypeId) (k k' : IntKind) (a m : Nat) (h : OfNat.ofNat m ≤ k.bits) : binV P .shr t (.int k (a : Int)) (.int k' (no_index (OfNat.ofNat m : Int))) = some (.int k ((a / 2 ^ (OfNat.ofNat m) : Nat) : Int)) := shr_nat P t k k' a (OfNat.ofNat m) h
theorem bits_u8 : IntKind.u8.bits = 8 := rfl
theorem bits_u32 : IntKind.u32.bits = 32 := rfl
theorem bits_u64 : IntKind.u64.bits = 64 := rfl
theorem bits_i64 : IntKind.i64.bits = 64 := rfl
theorem byteRow_def (b : UInt8) : byteRow b = [.int .u8 (b.toNat : Int)] := rfl
theorem put_map {α : Type} (f : α → AVal) (l : List α) (j : Nat) (x : α) (h : j < l.length) : putCells (l.map f) j [f x] = (l.set j x).map f := by
  rw [putCells_eq]
  simp only [List.length_singleton]
  rw [List.set_eq_take_append_cons_drop, if_pos h]
  simp [List.map_take, List.map_drop]
theorem part_map {α : Type} (f : α → AVal) (l : List α) (j : Nat) (h : j < l.length) : mkV false (((l.map f).drop j).take 1) = f l[j] := by
  rw [← List.map_drop, ← List.map_take, List.drop_eq_getElem_cons h]; rfl
theorem u8_div32 (x : UInt32) (m : Nat) : IntKind.u8.wrap ((x.toNat / m : Nat) : Int) = ((UInt32.ofNat (x.toNat / m)).toUInt8.toNat : Int) := by
  have h1 := u32_lt x
  have h2 := Nat.div_le_self x.toNat m
  rw [IntKind.wrap_u8, UInt32.toNat_toUInt8, UInt32.toNat_ofNat']; generalize x.toNat / m = q at *; omega
theorem set_byteRow (l : List UInt8) (j : Nat) (x : UInt8) : (l.map byteRow).set j [.int .u8 (x.toNat : Int)] = (l.set j x).map byteRow := by rw [List.map_set]; rfl
theorem app_byteRow (l : List UInt8) (x : UInt8) : l.map byteRow ++ [[.int .u8 (x.toNat : Int)]] = (l ++ [x]).map byteRow := by rw [List.map_append]; rfl
theorem partw8 (l : List UInt8) (j : Nat) (h : j < l.length) : mkV false (((l.drop j).take 1).map w8) = .int .u8 ((l[j].toNat : Nat) : Int) := by rw [List.map_take, List.map_drop]; exact part_map w8 l j h
theorem num_w8 (l : List UInt8) : (l.map w8).all AVal.num = true := by induction l <;> simp_all [w8, AVal.num]
def r32 (x : UInt32) : List AVal := [.int .u32 (x.toNat : Int)]
theorem r32_eq (x : UInt32) : r32 x = [.int .u32 (x.toNat : Int)] := rfl
theorem putw32 (l : List UInt32) (j : Nat) (x : UInt32) (h : j < l.length) : putCells (l.map w32) j [.int .u32 (x.toNat : Int)] = (l.set j x).map w32 := put_map w32 l j x h
theorem partw32 (l : List UInt32) (j : Nat) (h : j < l.length) : mkV false (((l.drop j).take 1).map w32) = .int .u32 ((l[j].toNat : Nat) : Int) := by rw [List.map_take, List.map_drop]; exact part_map w32 l j h
theorem all_w32 (l : List UInt32) : (l.map w32).all AVal.one = true := by induction l <;> simp_all [w32, AVal.one]
theorem num_w32 (l : List UInt32) : (l.map w32).all AVal.num = true := by induction l <;> simp_all [w32, AVal.num]
theorem flat_w32 (l : List UInt32) : flats (l.map w32) = true := by induction l <;> simp_all [w32, flats, AVal.flat]
def r64 (x : UInt64) : List AVal := [.int .u64 (x.toNat : Int)]
theorem r64_eq (x : UInt64) : r64 x = [.int .u64 (x.toNat : Int)] := rfl
theorem num_clo : ∀ (cs : List AVal), cs.all AVal.num = true → clos cs = true
  | [], _ => rfl
  | v :: vs, h => by
    simp only [List.all_cons, Bool.and_eq_true] at h
    simp only [clos, Bool.and_eq_true]
    refine ⟨?_, num_clo vs h.2⟩
    cases v <;> simp [AVal.num] at h <;> rfl
theorem opnVs_num {H : Heap} {id k : Nat} {cs : List AVal} (h : cs.all AVal.num = true) : opnVs H id k cs = cs := (opns_clo H cs id k (num_clo cs h)).1
theorem opnUs_num {H : Heap} {id k : Nat} {cs : List AVal} (h : cs.all AVal.num = true) : opnUs H id k cs = [] := (opns_clo H cs id k (num_clo cs h)).2
theorem fixC_num {own : Bool} : ∀ {ks : List Nat} {cs : List AVal}, cs.all AVal.num = true → fixC own ks cs = cs
  | [], _, _ => by unfold fixC; rfl
  | _ :: _, [], _ => rfl
  | k :: ks, v :: vs, h => by
    simp only [List.all_cons, Bool.and_eq_true] at h
    simp only [fixC, fixC_num h.2]
    congr 1
    cases v <;> simp [AVal.num] at h <;> (cases k <;> rfl)
theorem pkL_num {H : Heap} {n : Nat} : ∀ {cs : List AVal}, cs.all AVal.num = true → pkL (pkE H n) cs = some (cs, [])
  | [], _ => rfl
  | v :: vs, h => by
    simp only [List.all_cons, Bool.and_eq_true] at h
    simp only [pkL, pkL_num h.2]
    cases n <;> cases v <;> simp [AVal.num] at h <;> simp [pkE, gu, AVal.clo, AVal.plain]
theorem okArgs_of {fn : Func} {code : Code} {ex : List Nat} {ds : List AVal} (h1 : codeOk fn.ntmps code = true) (h2 : decide (ds.length ≤ fn.ntmps) = true) (h3 : opnUs Heap.nil 0 0 ds = []) (h4 : (ex.all fun k => isUsl (ds.getD k .junk)) = true) : okArgs fn code ex ds = true := by
  simp only [okArgs, h1, h2, h3, h4, List.map_nil, Bool.and_true, Bool.true_and]; rfl
theorem opnVs_w8 (H : Heap) (id k : Nat) (l : List UInt8) : opnVs H id k (l.map w8) = l.map w8 := opnVs_num (num_w8 l)
theorem opnUs_w8 (H : Heap) (id k : Nat) (l : List UInt8) : opnUs H id k (l.map w8) = [] := opnUs_num (num_w8 l)
theorem fixC_w8 (own : Bool) (ks : List Nat) (l : List UInt8) : fixC own ks (l.map w8) = l.map w8 := fixC_num (num_w8 l)
theorem pkL_w8 {β : Type} (H : Heap) (n : Nat) (l : List UInt8) (K : List AVal × List Nat → Option β) : @kB _ _ (pkL (pkE H n) (l.map w8)) ⟨K⟩ = K (l.map w8, []) := by rw [pkL_num (num_w8 l)]; rfl
theorem opnVs_w32 (H : Heap) (id k : Nat) (l : List UInt32) : opnVs H id k (l.map w32) = l.map w32 := opnVs_num (num_w32 l)
theorem opnUs_w32 (H : Heap) (id k : Nat) (l : List UInt32) : opnUs H id k (l.map w32) = [] := opnUs_num (num_w32 l)
theorem fixC_w32 (own : Bool) (ks : List Nat) (l : List UInt32) : fixC own ks (l.map w32) = l.map w32 := fixC_num (num_w32 l)
theorem pkL_w32 {β : Type} (H : Heap) (n : Nat) (l : List UInt32) (K : List AVal × List Nat → Option β) : @kB _ _ (pkL (pkE H n) (l.map w32)) ⟨K⟩ = K (l.map w32, []) := by rw [pkL_num (num_w32 l)]; rfl
theorem kLoop_rec2 {α β : Type} {C : Cf} {lo : Nat} {b : Code} {Q : Exit → St → Option Res} (I : α → β → (Nat → AVal) → Heap → Prop) (μ : α → β → Nat) (R : α → β → Option Res)
    (step : ∀ a c f H, I a c f H → (∀ a' c' f' H', I a' c' f' H' → μ a' c' < μ a c → @kLoop f' H' ⟨(C, lo, b, Q)⟩ = R a' c') → dw C lo b (thenK (fun s => @kLoop s.fr s.H ⟨(C, lo, b, Q)⟩) Q) ⟨f, H⟩ = R a c) :
    ∀ a c f H, I a c f H → @kLoop f H ⟨(C, lo, b, Q)⟩ = R a c := fun a c f H h =>
  kLoop_rec (fun p f H => I p.1 p.2 f H) (fun p => μ p.1 p.2) (fun p => R p.1 p.2) (fun p f H hI ih => step p.1 p.2 f H hI fun a' c' f' H' hI' hlt => ih (a', c') f' H' hI' hlt) (a, c) f H h
attribute [go_sem high] putw32 u8_from32 u32_mull u32_mulnl u32_from8 u32_id u64_from8
attribute [go_sem] w8_eq w32_eq u32_addn u32_and u32_or u32_xor u32_shlN u32_shll u32_shrN u32_shrl u32_not u32_divid w64_eq u8_div32 set_byteRow app_byteRow partw8 num_w8 r32_eq partw32 all_w32 num_w32 flat_w32 r64_eq opnVs_w8 opnUs_w8 fixC_w8 pkL_w8 opnVs_w32 opnUs_w32 fixC_w32 pkL_w32 mul_lit lit_mul cast_mul lit_add add_lit byteRow_def tdiv_lit tmod_lit tdiv_nat tmod_nat bits_u8 bits_u32 bits_u64 bits_i64
attribute [go_sem] Nat.mul_one Nat.one_mul Nat.zero_mul Nat.mul_zero
attribute [go_sem low] shr_nat shr_lit
end Go.Am
