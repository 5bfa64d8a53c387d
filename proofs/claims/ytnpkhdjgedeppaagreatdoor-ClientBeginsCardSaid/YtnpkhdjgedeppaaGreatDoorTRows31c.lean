import Derived.Test.YtnpkhdjgedeppaaGreatDoorTSames
import Derived.Test.YtnpkhdjgedeppaaGreatDoorBr4
import Derived.Test.YtnpkhdjgedeppaaGreatDoorRows
import Derived.LaidMore
import Derived.OpenShut
import Derived.Stop.Joined
import Derived.MakeChecks
namespace Go.Proofs.YtnpkhdjgedeppaaGreatDoor
set_option maxHeartbeats 64000000
open Go.Am
open Go.ChangeShapes Go.WideShapes Go.ChangeAt Go.RowKit
set_option linter.unusedSimpArgs false
set_option linter.unusedVariables false
set_option maxRecDepth 100000
theorem clientBegins_law (ds : List AVal) (h : TAs C4.E.P Tryz.f3.params.toList ds) : fn C4 3 [] ds = some (.bool true, []) := by
  have h := TAs_sh h (show argShT C4.E.P 8 Tryz.f3.params.toList = some [(true, shNd), (false, [.i .i64]), (false, [.s]), (false, [.s]), (false, [.i .i64])] by kernel_rfl)
  simp only [ArgSh_one, ArgSh_agg, ArgSh_nil, Sh, Shs] at h
  obtain ⟨_, _, rfl, ha, _, _, rfl, ⟨z, rfl, hz⟩, _, _, rfl, ⟨s, rfl, hs⟩, _, _, rfl, ⟨k, rfl, hk⟩, _, _, rfl, ⟨y, rfl, hy⟩, rfl⟩ := h
  obtain ⟨n, rfl, o1, f1⟩ := rdNd ha
  exact e3 n z s k y o1 f1 hs hk
abbrev laidT : List (String × DataW Unit) := [("carcanet/digest.constants", Rows.laid_carcanet_digest_constants)]
theorem door_met (os : Os) (args : Array Value) : laidMetH Tryz.prog laidT ((World.doorLaid Tryz.prog 29 os).forCall (fun _ _ => 0) ⟨#[], args, []⟩).memory :=
  laidMetH_of_parts3 (fuel := 8) (laidMet_of_run' 8 (by kernel_rfl) (by kernel_rfl)) (by kernel_rfl) (by kernel_rfl)
theorem globT {W : World} (h : laidMetH Tryz.prog laidT W) : GlobOk C4.E.Γ (fun b => b < W.heap.size) W := by
  rw [MakeChecks.laidMetH_plain _ _ _ (by kernel_rfl)] at h
  refine globOk_tabs (P := Tryz.prog) (ts := tabs) ?_ ?_
  · intro t ht
    simp only [tabs, List.mem_cons, List.not_mem_nil, or_false] at ht
    rcases ht with rfl <;> kernel_rfl
  · intro t ht
    simp only [tabs, List.mem_cons, List.not_mem_nil, or_false] at ht
    rcases ht with rfl
    · exact tabIs_of_reads (g := 0) (t := 270) (e := 231) (n := 64) (by kernel_rfl) (by kernel_rfl) (by kernel_rfl) (by kernel_rfl) (by kernel_rfl) (by kernel_rfl) (Lib.laidMet.reads h (.head _))
theorem clientBegins_lifted (os : Os) (started : os.Started) (H : Type) (enc : TypeId × Value → H) :
    ReturnsInHanded {} Tryz.checked os 3 .any (fun w args => (Rows.clientBeginsSpec.pre enc Tryz.prog Tryz.f3 [] false w args ∧ laidMetH Tryz.prog laidT w) ∧ sizedMet enc Tryz.prog Tryz.f3 (OpenSpec.ofChange Rows.clientBeginsSpec) false w args) (Rows.clientBeginsSpec.post enc Tryz.prog Tryz.f3 Rows.clientBeginsRow.apart Rows.clientBeginsRow.fresh Rows.clientBeginsRow.handsOn Rows.clientBeginsRow.again) := by
  refine returnsInHanded_of_change_and (C := Tryz.checked) (X := fun w _ => laidMetH Tryz.prog laidT w) (fun _ _ _ hh h => h.of_heap hh) (by kernel_rfl) started (by kernel_rfl) Tryz.func3
    (ChangeSpec.witness_shaped (enc := enc) (C := Tryz.checked) (os := os) (X := fun w _ => laidMetH Tryz.prog laidT w) false (World.doorLaid Tryz.prog 29 os) #[.agg #[.string ⟨#[]⟩, .int .u64 0, .int .i64 0, .int .i64 0, .int .i64 0, .string ⟨#[]⟩, .int .i64 0, .string ⟨#[]⟩, .int .i64 0, .string ⟨#[]⟩, .bool false, .slice none 0 0, .slice none 0 0, .slice none 0 0, .slice none 0 0, .slice none 0 0, .slice none 0 0, .slice none 0 0, .int .i64 0, .int .i64 0, .slice none 0 0, .slice none 0 0], .int .i64 0, .string ⟨#[]⟩, .string ⟨#[]⟩, .int .i64 0] 8 rfl (World.shaped_of_RefB (by kernel_rfl) (by kernel_rfl)) (by kernel_rfl) (by kernel_rfl) (by kernel_rfl) (door_met os _)) ?_
  intro W base args ds gs before hval hW _ _ hL _
  refine law_contractG (C := C4) (m := 8) mixed own4_ok (by kernel_rfl) rfl (fun ds hd => ?_) clientBegins_law W (globT hL) base args ds gs before hval hW
  match ds, hd with
  | [_, _, _, _, _], _ => rfl
theorem clientBegins_closed : joinedFacts Tryz.pinned.checked.prog 3 Tryz.f3 Rows.clientBeginsSpec Rows.clientBeginsRow = true := by
  unfold joinedFacts
  simp only [Bool.and_eq_true]
  and_intros
  all_goals as_aux_lemma => kernel_rfl
theorem clientBegins_holds : Rows.ClientBeginsSaid :=
  OpenClaim.holds_of_wide 3 Tryz.f3 rfl rfl rfl rfl rfl rfl rfl ⟨rfl, rfl, rfl, rfl, rfl⟩ rfl rfl rfl rfl rfl (by as_aux_lemma => kernel_rfl) Tryz.func3 clientBegins_closed
    (of_decide_eq_true (by as_aux_lemma => kernel_rfl)) (by unfold Func.isWrapper; rw [if_neg (by decide +kernel)]; exact ⟨rfl, rfl⟩)
    (fun os started H enc _ => clientBegins_lifted os started H enc)
end Go.Proofs.YtnpkhdjgedeppaaGreatDoor
