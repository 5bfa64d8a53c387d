/- The statement LearnSelf holds for every input: by an answer nobody comes to be known, or to stand behind, but who answered, whom the node took by its gate then; and nobody is asked whom it would not take. -/
import Derived.Test.YtnpkhdjgedeppaaGreatDoorTRows32c
import Derived.Test.YtnpkhdjgedeppaaGreatDoorTie
import Derived.Test.YtnpkhdjgedeppaaGreatDoorCards
import Derived.SevenTiedAt
namespace Go.Proofs.YtnpkhdjgedeppaaGreatDoor
open Go.Am
set_option linter.unusedSimpArgs false
set_option linter.unusedVariables false
set_option maxRecDepth 100000
theorem learnSelf_card : Rows.LearnSelfCardSaid :=
  Claim7.holds_tied_plain_at .later [] Rows.learnSelfCard.laidKinds true Rows.learnSelfCard.stood.harness false
    learnSelf_holds (fun _ h => by cases h) (by as_aux_lemma => kernel_rfl) (fun _ h => by cases h) learnSelf_row_tie rfl ⟨rfl, rfl⟩ (by as_aux_lemma => kernel_rfl) rfl
    (fun f fn hf hfn => by
      obtain rfl : f = 8 := Option.some.inj ((show Tryz.prog.funcNamed "carcanet/carcanetlaw32.LearnSelf" = some 8 by kernel_rfl).symm.trans hf) |>.symm
      obtain rfl : fn = Tryz.f8 := (Option.some.inj (Tryz.func8.symm.trans hfn)).symm
      exact ⟨by kernel_rfl, fun j t ht => by
        have hp : Tryz.f8.params.toList = [36, 69, 24, 42] := by as_aux_lemma => kernel_rfl
        have hm : t ∈ [36, 69, 24, 42] := by rw [← hp]; exact Array.mem_toList_iff.2 (Array.mem_of_getElem? ht)
        have hall : ([36, 69, 24, 42].all fun u => !Tryz.prog.wantsStandIn u) = true := by as_aux_lemma => kernel_rfl
        exact (show Tryz.prog.wantsStandIn t = false by simpa using List.all_eq_true.1 hall t hm)⟩)
    (by as_aux_lemma => kernel_rfl)
end Go.Proofs.YtnpkhdjgedeppaaGreatDoor
