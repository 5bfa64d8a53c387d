import Derived.Test.YtccfjidpdlfenaaGreatDoorTPoly11
import Derived.Test.YtccfjidpdlfenaaGreatDoorBr4
import Derived.Test.YtccfjidpdlfenaaGreatDoorRows
import Derived.LaidMore
import Derived.OpenShut
import Derived.Stop.Joined
import Derived.MakeChecks
namespace Go.Proofs.YtccfjidpdlfenaaGreatDoor
open Go.Am
open Go.ChangeShapes Go.WideShapes Go.ChangeAt Go.RowKit
set_option linter.unusedSimpArgs false
set_option linter.unusedVariables false
set_option maxRecDepth 100000

theorem bytes_of {es : List (List AVal)} (h : ∀ r ∈ es, Shs [.i .u8] r) : ∃ l : List UInt8, es = l.map byteRow := by
  obtain ⟨l, h1, _⟩ := rows_map byteRow (fun _ => True) (fun r hr => by
    have := h r hr
    simp only [Shs, Sh] at this
    obtain ⟨_, _, rfl, ⟨z, rfl, hz⟩, rfl⟩ := this
    have hz := wf_u8 hz
    exact ⟨UInt8.ofNat z.toNat, by simp [byteRow]; omega, trivial⟩)
  exact ⟨l, h1⟩

theorem items_of {es : List (List AVal)} (h : ∀ r ∈ es, Shs [.s, .s, .i .i64, .b] r) : ∃ l : List It, es = l.map It.cs ∧ ∀ x ∈ l, x.k.length ≤ 9223372036854775807 ∧ x.v.length ≤ 9223372036854775807 := by
  refine rows_map It.cs _ fun r hr => ?_
  have := h r hr
  simp only [Shs, Sh] at this
  obtain ⟨_, _, rfl, ⟨k, rfl, hk⟩, _, _, rfl, ⟨v, rfl, hv⟩, _, _, rfl, ⟨n, rfl, hn⟩, _, _, rfl, ⟨g, rfl⟩, rfl⟩ := this
  exact ⟨⟨k, v, n, g⟩, rfl, hk, hv⟩

theorem vaultLocks_law (ds : List AVal) (h : TAs C.E.P Tryz.f3.params.toList ds) : fn C 3 [] ds = some (.bool true, []) := by
  have h := TAs_sh h (show argShT C.E.P 6 Tryz.f3.params.toList = some [(false, [.s]), (true, [.s, .i .u64, .sl 4 [.s, .s, .i .i64, .b]])] by kernel_rfl)
  simp only [ArgSh_one, ArgSh_agg, ArgSh_nil, Sh, Shs] at h
  obtain ⟨_, _, rfl, ⟨key, rfl, hkey⟩, _, _, rfl, ha, rfl⟩ := h
  obtain ⟨_, _, rfl, ⟨o, rfl, ho⟩, _, _, rfl, ⟨n, rfl, hn⟩, _, _, rfl, ⟨es, rfl, hl, hr⟩, rfl⟩ := ha
  obtain ⟨l, rfl, hx⟩ := items_of hr
  have hn := wf_u64 hn
  obtain ⟨n, rfl⟩ := Int.eq_ofNat_of_zero_le hn.1
  exact e3 key ⟨o, n, l⟩ hkey ⟨by simp only; omega, ho, by simpa using hl, hx⟩
theorem vaultForged_law (ds : List AVal) (h : TAs C.E.P Tryz.f4.params.toList ds) : fn C 4 [] ds = some (.bool true, []) := by
  have h := TAs_sh h (show argShT C.E.P 6 Tryz.f4.params.toList = some [(false, [.s]), (false, [.s]), (false, [.i .u64]), (false, [.sl 1 [.i .u8]])] by kernel_rfl)
  simp only [ArgSh_one, ArgSh_agg, ArgSh_nil, Sh, Shs] at h
  obtain ⟨_, _, rfl, ⟨key, rfl, hkey⟩, _, _, rfl, ⟨o, rfl, ho⟩, _, _, rfl, ⟨n, rfl, hn⟩, _, _, rfl, ⟨es, rfl, hl, hr⟩, rfl⟩ := h
  obtain ⟨l, rfl⟩ := bytes_of hr
  have hn := wf_u64 hn
  obtain ⟨n, rfl⟩ := Int.eq_ofNat_of_zero_le hn.1
  exact e4 key o n l (by omega) hkey ho (by simpa using hl)
theorem vaultUnlocks_law (ds : List AVal) (h : TAs C.E.P Tryz.f5.params.toList ds) : fn C 5 [] ds = some (.bool true, []) := by
  have h := TAs_sh h (show argShT C.E.P 6 Tryz.f5.params.toList = some [(false, [.s]), (false, [.sl 1 [.i .u8]])] by kernel_rfl)
  simp only [ArgSh_one, ArgSh_agg, ArgSh_nil, Sh, Shs] at h
  obtain ⟨_, _, rfl, ⟨key, rfl, hkey⟩, _, _, rfl, ⟨es, rfl, hl, hr⟩, rfl⟩ := h
  obtain ⟨l, rfl⟩ := bytes_of hr
  exact e5 key l hkey (by simpa using hl)

abbrev laidT : List (String × DataW Unit) := [("carcanet/digest.constants", Rows.laid_carcanet_digest_constants)]
theorem door_met (os : Os) (args : Array Value) : laidMetH Tryz.prog laidT ((World.doorLaid Tryz.prog 29 os).forCall (fun _ _ => 0) ⟨#[], args, []⟩).memory :=
  laidMetH_of_parts3 (fuel := 8) (laidMet_of_run' 8 (by kernel_rfl) (by kernel_rfl)) (by kernel_rfl) (by kernel_rfl)
theorem globT {W : World} (h : laidMetH Tryz.prog laidT W) : GlobOk C.E.Γ (fun b => b < W.heap.size) W := by
  rw [MakeChecks.laidMetH_plain _ _ _ (by kernel_rfl)] at h
  refine globOk_tabs (P := Tryz.prog) (ts := tabs) ?_ ?_
  · intro t ht
    simp only [tabs, List.mem_cons, List.not_mem_nil, or_false] at ht
    rcases ht with rfl <;> kernel_rfl
  · intro t ht
    simp only [tabs, List.mem_cons, List.not_mem_nil, or_false] at ht
    rcases ht with rfl
    · exact tabIs_of_reads (g := 0) (t := 153) (e := 72) (n := 64) (by kernel_rfl) (by kernel_rfl) (by kernel_rfl) (by kernel_rfl) (by kernel_rfl) (by kernel_rfl) (Lib.laidMet.reads h (.head _))

theorem vaultLocks_lifted (os : Os) (started : os.Started) (H : Type) (enc : TypeId × Value → H) :
    ReturnsInHanded {} Tryz.checked os 3 .any (fun w args => (Rows.vaultLocksSpec.pre enc Tryz.prog Tryz.f3 [] false w args ∧ laidMetH Tryz.prog laidT w) ∧ sizedMet enc Tryz.prog Tryz.f3 (OpenSpec.ofChange Rows.vaultLocksSpec) false w args) (Rows.vaultLocksSpec.post enc Tryz.prog Tryz.f3 Rows.vaultLocksRow.apart Rows.vaultLocksRow.fresh Rows.vaultLocksRow.handsOn Rows.vaultLocksRow.again) := by
  refine returnsInHanded_of_change_and (C := Tryz.checked) (X := fun w _ => laidMetH Tryz.prog laidT w) (fun _ _ _ hh h => h.of_heap hh) (by kernel_rfl) started (by kernel_rfl) Tryz.func3
    (ChangeSpec.witness_shaped (enc := enc) (C := Tryz.checked) (os := os) (X := fun w _ => laidMetH Tryz.prog laidT w) false (World.doorLaid Tryz.prog 29 os) #[.string ⟨#[]⟩, .agg #[.string ⟨#[]⟩, .int .u64 0, .slice none 0 0]] 8 rfl (World.shaped_of_RefB (by kernel_rfl) (by kernel_rfl)) (by kernel_rfl) (by kernel_rfl) (by kernel_rfl) (door_met os _)) ?_
  intro W base args ds gs before hval hW _ _ hL _
  refine law_contractG (C := C) (m := 6) mixed own_ok (by kernel_rfl) rfl (fun ds hd => ?_) vaultLocks_law W (globT hL) base args ds gs before hval hW
  match ds, hd with
  | [_, _], _ => rfl
theorem vaultLocks_holds : Rows.VaultLocksSaid :=
  OpenClaim.holds_of_wide 3 Tryz.f3 rfl rfl rfl rfl rfl rfl rfl ⟨rfl, rfl, rfl, rfl, rfl⟩ rfl rfl rfl rfl rfl (by kernel_rfl) Tryz.func3 (by kernel_rfl)
    (of_decide_eq_true (by kernel_rfl)) (by unfold Func.isWrapper; rw [if_neg (by decide +kernel)]; exact ⟨rfl, rfl⟩)
    (fun os started H enc _ => vaultLocks_lifted os started H enc)

theorem vaultForged_lifted (os : Os) (started : os.Started) (H : Type) (enc : TypeId × Value → H) :
    ReturnsInHanded {} Tryz.checked os 4 .any (fun w args => (Rows.vaultForgedSpec.pre enc Tryz.prog Tryz.f4 [] false w args ∧ laidMetH Tryz.prog laidT w) ∧ sizedMet enc Tryz.prog Tryz.f4 (OpenSpec.ofChange Rows.vaultForgedSpec) false w args) (Rows.vaultForgedSpec.post enc Tryz.prog Tryz.f4 Rows.vaultForgedRow.apart Rows.vaultForgedRow.fresh Rows.vaultForgedRow.handsOn Rows.vaultForgedRow.again) := by
  refine returnsInHanded_of_change_and (C := Tryz.checked) (X := fun w _ => laidMetH Tryz.prog laidT w) (fun _ _ _ hh h => h.of_heap hh) (by kernel_rfl) started (by kernel_rfl) Tryz.func4
    (ChangeSpec.witness_shaped (enc := enc) (C := Tryz.checked) (os := os) (X := fun w _ => laidMetH Tryz.prog laidT w) false (World.doorLaid Tryz.prog 29 os) #[.string ⟨#[]⟩, .string ⟨#[]⟩, .int .u64 0, .slice none 0 0] 8 rfl (World.shaped_of_RefB (by kernel_rfl) (by kernel_rfl)) (by kernel_rfl) (by kernel_rfl) (by kernel_rfl) (door_met os _)) ?_
  intro W base args ds gs before hval hW _ _ hL _
  refine law_contractG (C := C) (m := 6) mixed own_ok (by kernel_rfl) rfl (fun ds hd => ?_) vaultForged_law W (globT hL) base args ds gs before hval hW
  match ds, hd with
  | [_, _, _, _], _ => rfl
theorem vaultForged_holds : Rows.VaultForgedSaid :=
  OpenClaim.holds_of_wide 4 Tryz.f4 rfl rfl rfl rfl rfl rfl rfl ⟨rfl, rfl, rfl, rfl, rfl⟩ rfl rfl rfl rfl rfl (by kernel_rfl) Tryz.func4 (by kernel_rfl)
    (of_decide_eq_true (by kernel_rfl)) (by unfold Func.isWrapper; rw [if_neg (by decide +kernel)]; exact ⟨rfl, rfl⟩)
    (fun os started H enc _ => vaultForged_lifted os started H enc)

theorem vaultUnlocks_lifted (os : Os) (started : os.Started) (H : Type) (enc : TypeId × Value → H) :
    ReturnsInHanded {} Tryz.checked os 5 .any (fun w args => (Rows.vaultUnlocksSpec.pre enc Tryz.prog Tryz.f5 [] false w args ∧ laidMetH Tryz.prog laidT w) ∧ sizedMet enc Tryz.prog Tryz.f5 (OpenSpec.ofChange Rows.vaultUnlocksSpec) false w args) (Rows.vaultUnlocksSpec.post enc Tryz.prog Tryz.f5 Rows.vaultUnlocksRow.apart Rows.vaultUnlocksRow.fresh Rows.vaultUnlocksRow.handsOn Rows.vaultUnlocksRow.again) := by
  refine returnsInHanded_of_change_and (C := Tryz.checked) (X := fun w _ => laidMetH Tryz.prog laidT w) (fun _ _ _ hh h => h.of_heap hh) (by kernel_rfl) started (by kernel_rfl) Tryz.func5
    (ChangeSpec.witness_shaped (enc := enc) (C := Tryz.checked) (os := os) (X := fun w _ => laidMetH Tryz.prog laidT w) false (World.doorLaid Tryz.prog 29 os) #[.string ⟨#[]⟩, .slice none 0 0] 8 rfl (World.shaped_of_RefB (by kernel_rfl) (by kernel_rfl)) (by kernel_rfl) (by kernel_rfl) (by kernel_rfl) (door_met os _)) ?_
  intro W base args ds gs before hval hW _ _ hL _
  refine law_contractG (C := C) (m := 6) mixed own_ok (by kernel_rfl) rfl (fun ds hd => ?_) vaultUnlocks_law W (globT hL) base args ds gs before hval hW
  match ds, hd with
  | [_, _], _ => rfl
theorem vaultUnlocks_holds : Rows.VaultUnlocksSaid :=
  OpenClaim.holds_of_wide 5 Tryz.f5 rfl rfl rfl rfl rfl rfl rfl ⟨rfl, rfl, rfl, rfl, rfl⟩ rfl rfl rfl rfl rfl (by kernel_rfl) Tryz.func5 (by kernel_rfl)
    (of_decide_eq_true (by kernel_rfl)) (by unfold Func.isWrapper; rw [if_neg (by decide +kernel)]; exact ⟨rfl, rfl⟩)
    (fun os started H enc _ => vaultUnlocks_lifted os started H enc)

end Go.Proofs.YtccfjidpdlfenaaGreatDoor
