/- The statement ClientBegins holds for every input: what any node becomes that begins any job, or seeks an owner, or ends what takes too long, and what it sends, or why not, is as the document has it; it stays as it is. -/
import Derived.Test.YtnpkhdjgedeppaaGreatDoorTRows31c
import Derived.Test.YtnpkhdjgedeppaaGreatDoorTie
import Derived.Test.YtnpkhdjgedeppaaGreatDoorCards
import Derived.SevenTiedAt
namespace Go.Proofs.YtnpkhdjgedeppaaGreatDoor
open Go.Am
set_option linter.unusedSimpArgs false
set_option linter.unusedVariables false
set_option maxRecDepth 100000
theorem clientBegins_card : Rows.ClientBeginsCardSaid :=
  Claim7.holds_tied_plain_at .later [] Rows.clientBeginsCard.laidKinds true Rows.clientBeginsCard.stood.harness false
    clientBegins_holds (fun _ h => by cases h) (by as_aux_lemma => kernel_rfl) (fun _ h => by cases h) clientBegins_row_tie rfl ⟨rfl, rfl⟩ (by as_aux_lemma => kernel_rfl) rfl
    (fun f fn hf hfn => by
      obtain rfl : f = 3 := Option.some.inj ((show Tryz.prog.funcNamed "carcanet/carcanetlaw31.ClientBegins" = some 3 by kernel_rfl).symm.trans hf) |>.symm
      obtain rfl : fn = Tryz.f3 := (Option.some.inj (Tryz.func3.symm.trans hfn)).symm
      exact ⟨by kernel_rfl, fun j t ht => by
        have hp : Tryz.f3.params.toList = [36, 3, 9, 9, 3] := by as_aux_lemma => kernel_rfl
        have hm : t ∈ [36, 3, 9, 9, 3] := by rw [← hp]; exact Array.mem_toList_iff.2 (Array.mem_of_getElem? ht)
        have hall : ([36, 3, 9, 9, 3].all fun u => !Tryz.prog.wantsStandIn u) = true := by as_aux_lemma => kernel_rfl
        exact (show Tryz.prog.wantsStandIn t = false by simpa using List.all_eq_true.1 hall t hm)⟩)
    (by as_aux_lemma => kernel_rfl)
end Go.Proofs.YtnpkhdjgedeppaaGreatDoor
