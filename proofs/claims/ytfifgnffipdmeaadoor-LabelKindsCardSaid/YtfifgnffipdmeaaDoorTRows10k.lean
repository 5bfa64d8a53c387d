import Derived.Test.YtfifgnffipdmeaaDoorTKinds
import Derived.Test.YtfifgnffipdmeaaDoorBr4
import Derived.Test.YtfifgnffipdmeaaDoorRows
import Derived.LaidMore
import Derived.OpenShut
import Derived.Stop.Joined
import Derived.MakeChecks
namespace Go.Proofs.YtfifgnffipdmeaaDoor
open Go.Am
open Go.ChangeShapes Go.WideShapes Go.ChangeAt Go.RowKit
set_option linter.unusedSimpArgs false
set_option linter.unusedVariables false
set_option maxRecDepth 100000


theorem labelKinds_law (ds : List AVal) (h : TAs C.E.P Tryd.f6.params.toList ds) : fn C 6 [] ds = some (.bool true, []) := by
  have h := TAs_sh h (show argShT C.E.P 6 Tryd.f6.params.toList = some [(false, [.s])] by kernel_rfl)
  simp only [ArgSh_one, ArgSh_nil, Sh] at h
  obtain ⟨_, _, rfl, ⟨k, rfl, hk⟩, rfl⟩ := h
  exact e6 k (by simpa using hk)

abbrev laid4 : List (String × DataW Unit) := [("math/bits.deBruijn32tab", Rows.laid_math_bits_deBruijn32tab), ("math/bits.deBruijn64tab", Rows.laid_math_bits_deBruijn64tab), ("internal/strconv.uint64pow10", Rows.laid_internal_strconv_uint64pow10), ("carcanet/digest.constants", Rows.laid_carcanet_digest_constants)]
theorem door_met4 (os : Os) (args : Array Value) : laidMetH Tryd.prog laid4 ((World.doorLaid Tryd.prog 29 os).forCall (fun _ _ => 0) ⟨#[], args, []⟩).memory :=
  laidMetH_of_parts3 (fuel := 8) (laidMet_of_run' 8 (by kernel_rfl) (by kernel_rfl)) (by kernel_rfl) (by kernel_rfl)
theorem glob4 {W : World} (h : laidMetH Tryd.prog laid4 W) : GlobOk C.E.Γ (fun b => b < W.heap.size) W := by
  rw [MakeChecks.laidMetH_plain _ _ _ (by kernel_rfl)] at h
  refine globOk_tabs (P := Tryd.prog) (ts := tabs) ?_ ?_
  · intro t ht
    simp only [tabs, List.mem_cons, List.not_mem_nil, or_false] at ht
    rcases ht with rfl | rfl | rfl | rfl <;> kernel_rfl
  · intro t ht
    simp only [tabs, List.mem_cons, List.not_mem_nil, or_false] at ht
    rcases ht with rfl | rfl | rfl | rfl
    · exact tabIs_of_reads (g := 3) (t := 87) (e := 5) (n := 32) (by kernel_rfl) (by kernel_rfl) (by kernel_rfl) (by kernel_rfl) (by kernel_rfl) (by kernel_rfl) (Lib.laidMet.reads h (.head _))
    · exact tabIs_of_reads (g := 4) (t := 63) (e := 5) (n := 64) (by kernel_rfl) (by kernel_rfl) (by kernel_rfl) (by kernel_rfl) (by kernel_rfl) (by kernel_rfl) (Lib.laidMet.reads h (.tail _ (.head _)))
    · exact tabIs_of_reads (g := 1) (t := 82) (e := 22) (n := 20) (by kernel_rfl) (by kernel_rfl) (by kernel_rfl) (by kernel_rfl) (by kernel_rfl) (by kernel_rfl) (Lib.laidMet.reads h (.tail _ (.tail _ (.head _))))
    · exact tabIs_of_reads (g := 0) (t := 76) (e := 53) (n := 64) (by kernel_rfl) (by kernel_rfl) (by kernel_rfl) (by kernel_rfl) (by kernel_rfl) (by kernel_rfl) (Lib.laidMet.reads h (.tail _ (.tail _ (.tail _ (.head _)))))

theorem labelKinds_lifted (os : Os) (started : os.Started) (H : Type) (enc : TypeId × Value → H) :
    ReturnsInHanded {} Tryd.checked os 6 .any (fun w args => (Rows.labelKindsSpec.pre enc Tryd.prog Tryd.f6 [] false w args ∧ laidMetH Tryd.prog laid4 w) ∧ sizedMet enc Tryd.prog Tryd.f6 (OpenSpec.ofChange Rows.labelKindsSpec) false w args) (Rows.labelKindsSpec.post enc Tryd.prog Tryd.f6 Rows.labelKindsRow.apart Rows.labelKindsRow.fresh Rows.labelKindsRow.handsOn Rows.labelKindsRow.again) := by
  refine returnsInHanded_of_change_and (C := Tryd.checked) (X := fun w _ => laidMetH Tryd.prog laid4 w) (fun _ _ _ hh h => h.of_heap hh) (by kernel_rfl) started (by kernel_rfl) Tryd.func6
    (ChangeSpec.witness_shaped (enc := enc) (C := Tryd.checked) (os := os) (X := fun w _ => laidMetH Tryd.prog laid4 w) false (World.doorLaid Tryd.prog 29 os) #[.string ⟨#[]⟩] 8 rfl (World.shaped_of_RefB (by kernel_rfl) (by kernel_rfl)) (by kernel_rfl) (by kernel_rfl) (by kernel_rfl) (door_met4 os _)) ?_
  intro W base args ds gs before hval hW _ _ hL _
  refine law_contractG (C := C) (m := 6) mixed own_ok (by kernel_rfl) rfl (fun ds hd => ?_) labelKinds_law W (glob4 hL) base args ds gs before hval hW
  match ds, hd with
  | [_], _ => rfl
theorem labelKinds_holds : Rows.LabelKindsSaid :=
  OpenClaim.holds_of_wide 6 Tryd.f6 rfl rfl rfl rfl rfl rfl rfl ⟨rfl, rfl, rfl, rfl, rfl⟩ rfl rfl rfl rfl rfl (by kernel_rfl) Tryd.func6 (by kernel_rfl)
    (of_decide_eq_true (by kernel_rfl)) (by unfold Func.isWrapper; rw [if_neg (by decide +kernel)]; exact ⟨rfl, rfl⟩)
    (fun os started H enc _ => labelKinds_lifted os started H enc)


end Go.Proofs.YtfifgnffipdmeaaDoor
