/- The card of serveKnows: proved from the contracts of the functions it reaches. Conditions: those of the given statement. -/
import Derived.Test.YtnpkhdjgedeppaaGreatDoorTRows30b
import Derived.Test.YtnpkhdjgedeppaaGreatDoorTie
import Derived.Test.YtnpkhdjgedeppaaGreatDoorCards
import Derived.SevenTiedAt
namespace Go.Proofs.YtnpkhdjgedeppaaGreatDoor
open Go.Am
set_option linter.unusedSimpArgs false
set_option linter.unusedVariables false
set_option maxRecDepth 100000
theorem serveKnows_card : Rows.ServeKnowsCardSaid :=
  Claim7.holds_tied_plain_at .later [] Rows.serveKnowsCard.laidKinds true Rows.serveKnowsCard.stood.harness false
    serveKnows_holds (fun _ h => by cases h) (by as_aux_lemma => kernel_rfl) (fun _ h => by cases h) serveKnows_row_tie rfl ⟨rfl, rfl⟩ (by as_aux_lemma => kernel_rfl) rfl
    (fun f fn hf hfn => by
      obtain rfl : f = 6 := Option.some.inj ((show Tryz.prog.funcNamed "carcanet/carcanetlaw30.ServeKnows" = some 6 by kernel_rfl).symm.trans hf) |>.symm
      obtain rfl : fn = Tryz.f6 := (Option.some.inj (Tryz.func6.symm.trans hfn)).symm
      exact ⟨by kernel_rfl, fun j t ht => by
        have hp : Tryz.f6.params.toList = [36, 24, 9, 9] := by as_aux_lemma => kernel_rfl
        have hm : t ∈ [36, 24, 9, 9] := by rw [← hp]; exact Array.mem_toList_iff.2 (Array.mem_of_getElem? ht)
        have hall : ([36, 24, 9, 9].all fun u => !Tryz.prog.wantsStandIn u) = true := by as_aux_lemma => kernel_rfl
        exact (show Tryz.prog.wantsStandIn t = false by simpa using List.all_eq_true.1 hall t hm)⟩)
    (by as_aux_lemma => kernel_rfl)
end Go.Proofs.YtnpkhdjgedeppaaGreatDoor
