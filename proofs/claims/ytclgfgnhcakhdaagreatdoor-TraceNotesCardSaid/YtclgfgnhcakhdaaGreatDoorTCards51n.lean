/- The law TraceNotes holds for every input: which lines any steps and errors are, and which sum, or that a step is none, is as the document has it. -/
import Derived.Test.YtclgfgnhcakhdaaGreatDoorTRows51n
import Derived.Test.YtclgfgnhcakhdaaGreatDoorTie
import Derived.Test.YtclgfgnhcakhdaaGreatDoorCards
import Derived.SevenTiedAt
namespace Go.Proofs.YtclgfgnhcakhdaaGreatDoor
open Go.Am
set_option linter.unusedSimpArgs false
set_option linter.unusedVariables false
set_option maxRecDepth 100000
theorem traceNotes_card : Rows.TraceNotesCardSaid :=
  Claim7.holds_tied_plain_at .later [] Rows.traceNotesCard.laidKinds true Rows.traceNotesCard.stood.harness false
    traceNotes_holds (fun _ h => by cases h) (by as_aux_lemma => kernel_rfl) (fun _ h => by cases h) traceNotes_row_tie rfl ⟨rfl, rfl⟩ (by as_aux_lemma => kernel_rfl) rfl
    (fun f fn hf hfn => by
      obtain rfl : f = 3 := Option.some.inj ((show Tryz.prog.funcNamed "carcanet/carcanetlaw51.TraceNotes" = some 3 by kernel_rfl).symm.trans hf) |>.symm
      obtain rfl : fn = Tryz.f3 := (Option.some.inj (Tryz.func3.symm.trans hfn)).symm
      exact ⟨by kernel_rfl, fun j t ht => by
        have hp : Tryz.f3.params.toList = [9, 22, 23] := by as_aux_lemma => kernel_rfl
        have hm : t ∈ [9, 22, 23] := by rw [← hp]; exact Array.mem_toList_iff.2 (Array.mem_of_getElem? ht)
        have hall : ([9, 22, 23].all fun u => !Tryz.prog.wantsStandIn u) = true := by as_aux_lemma => kernel_rfl
        exact (show Tryz.prog.wantsStandIn t = false by simpa using List.all_eq_true.1 hall t hm)⟩)
    (by as_aux_lemma => kernel_rfl)
end Go.Proofs.YtclgfgnhcakhdaaGreatDoor
