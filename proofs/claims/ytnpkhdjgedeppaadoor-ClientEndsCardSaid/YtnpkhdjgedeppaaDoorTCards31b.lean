/- The card of ClientEnds: proved from the contracts of the functions it reaches. Conditions: those of the given statement. -/
import Derived.Test.YtnpkhdjgedeppaaDoorTRows31b
import Derived.Test.YtnpkhdjgedeppaaDoorTie
import Derived.Test.YtnpkhdjgedeppaaDoorCards
import Derived.SevenTiedAt
namespace Go.Proofs.YtnpkhdjgedeppaaDoor
open Go.Am
set_option linter.unusedSimpArgs false
set_option linter.unusedVariables false
set_option maxRecDepth 100000

theorem clientEnds_card : Rows.ClientEndsCardSaid :=
  Claim7.holds_tied_plain_at .later [] Rows.clientEndsCard.laidKinds true Rows.clientEndsCard.stood.harness false
    clientEnds_holds (fun _ h => by cases h) (by as_aux_lemma => kernel_rfl) (fun _ h => by cases h) clientEnds_row_tie rfl ⟨rfl, rfl⟩ (by as_aux_lemma => kernel_rfl) rfl
    (fun f fn hf hfn => by
      obtain rfl : f = 4 := Option.some.inj ((show Tryd.prog.funcNamed "carcanet/carcanetlaw31.ClientEnds" = some 4 by kernel_rfl).symm.trans hf) |>.symm
      obtain rfl : fn = Tryd.f4 := (Option.some.inj (Tryd.func4.symm.trans hfn)).symm
      exact ⟨by kernel_rfl, fun j t ht => by
        have hp : Tryd.f4.params.toList = [36, 3] := by as_aux_lemma => kernel_rfl
        have hm : t ∈ [36, 3] := by rw [← hp]; exact Array.mem_toList_iff.2 (Array.mem_of_getElem? ht)
        have hall : ([36, 3].all fun u => !Tryd.prog.wantsStandIn u) = true := by as_aux_lemma => kernel_rfl
        exact (show Tryd.prog.wantsStandIn t = false by simpa using List.all_eq_true.1 hall t hm)⟩)
    (by as_aux_lemma => kernel_rfl)

end Go.Proofs.YtnpkhdjgedeppaaDoor
