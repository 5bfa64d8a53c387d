import Derived.Test.YtccfjidpdlfenaaDoorTPoly5
import Derived.Test.YtccfjidpdlfenaaDoorBr4
import Derived.Test.YtccfjidpdlfenaaDoorRows
import Derived.LaidMore
import Derived.OpenShut
import Derived.Stop.Joined
import Derived.MakeChecks
namespace Go.Proofs.YtccfjidpdlfenaaDoor
open Go.Am
open Go.ChangeShapes Go.WideShapes Go.ChangeAt Go.RowKit
set_option linter.unusedSimpArgs false
set_option linter.unusedVariables false
set_option maxRecDepth 100000

theorem bytes_of {es : List (List AVal)} (h : ∀ r ∈ es, Shs [.i .u8] r) : ∃ l : List UInt8, es = l.map byteRow := by
  obtain ⟨l, h1, _⟩ := rows_map byteRow (fun _ => True) (fun r hr => by
    have := h r hr
    simp only [Shs, Sh] at this
    obtain ⟨_, _, rfl, ⟨z, rfl, hz⟩, rfl⟩ := this
    have hz := wf_u8 hz
    exact ⟨UInt8.ofNat z.toNat, by simp [byteRow]; omega, trivial⟩)
  exact ⟨l, h1⟩
theorem byte_of {z : Int} (h : (Lit.int .u8 z).wf = true) : ∃ x : UInt8, z = (x.toNat : Int) := by
  have hz := wf_u8 h
  exact ⟨UInt8.ofNat z.toNat, by simp; omega⟩

theorem hd_ok {i : Nat} {r e s : Int} (hi : i ≤ 18446744073709551615) (hr : -9223372036854775808 ≤ r ∧ r ≤ 9223372036854775807) (he : -9223372036854775808 ≤ e ∧ e ≤ 9223372036854775807) (hs : -9223372036854775808 ≤ s ∧ s ≤ 9223372036854775807) : (⟨i, r, e, s⟩ : Hd).ok := ⟨hi, he.1, he.2, hs.1, hs.2, hr.1, hr.2⟩

theorem recordHeads_law (ds : List AVal) (h : TAs C.E.P Tryd.f7.params.toList ds) : fn C 7 [] ds = some (.bool true, []) := by
  have h := TAs_sh h (show argShT C.E.P 6 Tryd.f7.params.toList = some [(true, [.i .u64, .i .i64, .i .i64, .i .i64]), (false, [.sl 1 [.i .u8]])] by kernel_rfl)
  simp only [ArgSh_one, ArgSh_agg, ArgSh_nil, Sh, Shs] at h
  obtain ⟨_, _, rfl, ha, _, _, rfl, ⟨es, rfl, hl, hr⟩, rfl⟩ := h
  obtain ⟨_, _, rfl, ⟨i, rfl, hi⟩, _, _, rfl, ⟨r, rfl, hrr⟩, _, _, rfl, ⟨e, rfl, he⟩, _, _, rfl, ⟨s, rfl, hs⟩, rfl⟩ := ha
  obtain ⟨l, rfl⟩ := bytes_of hr
  have hi := wf_u64 hi
  obtain ⟨i, rfl⟩ := Int.eq_ofNat_of_zero_le hi.1
  exact e7 ⟨i, r, e, s⟩ l (hd_ok (by omega) (wf_i64 hrr) (wf_i64 he) (wf_i64 hs)) (by simpa using hl)
theorem recordBack_law (ds : List AVal) (h : TAs C.E.P Tryd.f8.params.toList ds) : fn C 8 [] ds = some (.bool true, []) := by
  have h := TAs_sh h (show argShT C.E.P 6 Tryd.f8.params.toList = some [(false, [.s]), (true, [.i .u64, .i .i64, .i .i64, .i .i64]), (false, [.sl 1 [.i .u8]]), (false, [.i .u8]), (false, [.i .u8])] by kernel_rfl)
  simp only [ArgSh_one, ArgSh_agg, ArgSh_nil, Sh, Shs] at h
  obtain ⟨_, _, rfl, ⟨root, rfl, hroot⟩, _, _, rfl, ha, _, _, rfl, ⟨es, rfl, hl, hr⟩, _, _, rfl, ⟨x, rfl, hx⟩, _, _, rfl, ⟨y, rfl, hy⟩, rfl⟩ := h
  obtain ⟨_, _, rfl, ⟨i, rfl, hi⟩, _, _, rfl, ⟨r, rfl, hrr⟩, _, _, rfl, ⟨e, rfl, he⟩, _, _, rfl, ⟨s, rfl, hs⟩, rfl⟩ := ha
  obtain ⟨l, rfl⟩ := bytes_of hr
  have hi := wf_u64 hi
  obtain ⟨i, rfl⟩ := Int.eq_ofNat_of_zero_le hi.1
  obtain ⟨x, rfl⟩ := byte_of hx
  obtain ⟨y, rfl⟩ := byte_of hy
  exact e8 root ⟨i, r, e, s⟩ l x y (hd_ok (by omega) (wf_i64 hrr) (wf_i64 he) (wf_i64 hs)) hroot (by simpa using hl)

abbrev laidT : List (String × DataW Unit) := [("math/bits.deBruijn32tab", Rows.laid_math_bits_deBruijn32tab), ("math/bits.deBruijn64tab", Rows.laid_math_bits_deBruijn64tab), ("internal/strconv.uint64pow10", Rows.laid_internal_strconv_uint64pow10), ("carcanet/digest.constants", Rows.laid_carcanet_digest_constants)]
theorem door_met (os : Os) (args : Array Value) : laidMetH Tryd.prog laidT ((World.doorLaid Tryd.prog 29 os).forCall (fun _ _ => 0) ⟨#[], args, []⟩).memory :=
  laidMetH_of_parts3 (fuel := 8) (laidMet_of_run' 8 (by kernel_rfl) (by kernel_rfl)) (by kernel_rfl) (by kernel_rfl)
theorem globT {W : World} (h : laidMetH Tryd.prog laidT W) : GlobOk C.E.Γ (fun b => b < W.heap.size) W := by
  rw [MakeChecks.laidMetH_plain _ _ _ (by kernel_rfl)] at h
  refine globOk_tabs (P := Tryd.prog) (ts := tabs) ?_ ?_
  · intro t ht
    simp only [tabs, List.mem_cons, List.not_mem_nil, or_false] at ht
    rcases ht with rfl | rfl | rfl | rfl <;> kernel_rfl
  · intro t ht
    simp only [tabs, List.mem_cons, List.not_mem_nil, or_false] at ht
    rcases ht with rfl | rfl | rfl | rfl
    · exact tabIs_of_reads (g := 2) (t := 181) (e := 5) (n := 32) (by kernel_rfl) (by kernel_rfl) (by kernel_rfl) (by kernel_rfl) (by kernel_rfl) (by kernel_rfl) (Lib.laidMet.reads h (.head _))
    · exact tabIs_of_reads (g := 3) (t := 136) (e := 5) (n := 64) (by kernel_rfl) (by kernel_rfl) (by kernel_rfl) (by kernel_rfl) (by kernel_rfl) (by kernel_rfl) (Lib.laidMet.reads h (.tail _ (.head _)))
    · exact tabIs_of_reads (g := 1) (t := 174) (e := 23) (n := 20) (by kernel_rfl) (by kernel_rfl) (by kernel_rfl) (by kernel_rfl) (by kernel_rfl) (by kernel_rfl) (Lib.laidMet.reads h (.tail _ (.tail _ (.head _))))
    · exact tabIs_of_reads (g := 0) (t := 159) (e := 116) (n := 64) (by kernel_rfl) (by kernel_rfl) (by kernel_rfl) (by kernel_rfl) (by kernel_rfl) (by kernel_rfl) (Lib.laidMet.reads h (.tail _ (.tail _ (.tail _ (.head _)))))

theorem recordHeads_lifted (os : Os) (started : os.Started) (H : Type) (enc : TypeId × Value → H) :
    ReturnsInHanded {} Tryd.checked os 7 .any (fun w args => (Rows.recordHeadsSpec.pre enc Tryd.prog Tryd.f7 [] false w args ∧ laidMetH Tryd.prog laidT w) ∧ sizedMet enc Tryd.prog Tryd.f7 (OpenSpec.ofChange Rows.recordHeadsSpec) false w args) (Rows.recordHeadsSpec.post enc Tryd.prog Tryd.f7 Rows.recordHeadsRow.apart Rows.recordHeadsRow.fresh Rows.recordHeadsRow.handsOn Rows.recordHeadsRow.again) := by
  refine returnsInHanded_of_change_and (C := Tryd.checked) (X := fun w _ => laidMetH Tryd.prog laidT w) (fun _ _ _ hh h => h.of_heap hh) (by kernel_rfl) started (by kernel_rfl) Tryd.func7
    (ChangeSpec.witness_shaped (enc := enc) (C := Tryd.checked) (os := os) (X := fun w _ => laidMetH Tryd.prog laidT w) false (World.doorLaid Tryd.prog 29 os) #[.agg #[.int .u64 0, .int .i64 0, .int .i64 0, .int .i64 0], .slice none 0 0] 8 rfl (World.shaped_of_RefB (by kernel_rfl) (by kernel_rfl)) (by kernel_rfl) (by kernel_rfl) (by kernel_rfl) (door_met os _)) ?_
  intro W base args ds gs before hval hW _ _ hL _
  refine law_contractG (C := C) (m := 6) mixed own_ok (by kernel_rfl) rfl (fun ds hd => ?_) recordHeads_law W (globT hL) base args ds gs before hval hW
  match ds, hd with
  | [_, _], _ => rfl
theorem recordHeads_holds : Rows.RecordHeadsSaid :=
  OpenClaim.holds_of_wide 7 Tryd.f7 rfl rfl rfl rfl rfl rfl rfl ⟨rfl, rfl, rfl, rfl, rfl⟩ rfl rfl rfl rfl rfl (by kernel_rfl) Tryd.func7 (by kernel_rfl)
    (of_decide_eq_true (by kernel_rfl)) (by unfold Func.isWrapper; rw [if_neg (by decide +kernel)]; exact ⟨rfl, rfl⟩)
    (fun os started H enc _ => recordHeads_lifted os started H enc)

theorem recordBack_lifted (os : Os) (started : os.Started) (H : Type) (enc : TypeId × Value → H) :
    ReturnsInHanded {} Tryd.checked os 8 .any (fun w args => (Rows.recordBackSpec.pre enc Tryd.prog Tryd.f8 [] false w args ∧ laidMetH Tryd.prog laidT w) ∧ sizedMet enc Tryd.prog Tryd.f8 (OpenSpec.ofChange Rows.recordBackSpec) false w args) (Rows.recordBackSpec.post enc Tryd.prog Tryd.f8 Rows.recordBackRow.apart Rows.recordBackRow.fresh Rows.recordBackRow.handsOn Rows.recordBackRow.again) := by
  refine returnsInHanded_of_change_and (C := Tryd.checked) (X := fun w _ => laidMetH Tryd.prog laidT w) (fun _ _ _ hh h => h.of_heap hh) (by kernel_rfl) started (by kernel_rfl) Tryd.func8
    (ChangeSpec.witness_shaped (enc := enc) (C := Tryd.checked) (os := os) (X := fun w _ => laidMetH Tryd.prog laidT w) false (World.doorLaid Tryd.prog 29 os) #[.string ⟨#[]⟩, .agg #[.int .u64 0, .int .i64 0, .int .i64 0, .int .i64 0], .slice none 0 0, .int .u8 0, .int .u8 0] 8 rfl (World.shaped_of_RefB (by kernel_rfl) (by kernel_rfl)) (by kernel_rfl) (by kernel_rfl) (by kernel_rfl) (door_met os _)) ?_
  intro W base args ds gs before hval hW _ _ hL _
  refine law_contractG (C := C) (m := 6) mixed own_ok (by kernel_rfl) rfl (fun ds hd => ?_) recordBack_law W (globT hL) base args ds gs before hval hW
  match ds, hd with
  | [_, _, _, _, _], _ => rfl
theorem recordBack_holds : Rows.RecordBackSaid :=
  OpenClaim.holds_of_wide 8 Tryd.f8 rfl rfl rfl rfl rfl rfl rfl ⟨rfl, rfl, rfl, rfl, rfl⟩ rfl rfl rfl rfl rfl (by kernel_rfl) Tryd.func8 (by kernel_rfl)
    (of_decide_eq_true (by kernel_rfl)) (by unfold Func.isWrapper; rw [if_neg (by decide +kernel)]; exact ⟨rfl, rfl⟩)
    (fun os started H enc _ => recordBack_lifted os started H enc)

end Go.Proofs.YtccfjidpdlfenaaDoor
