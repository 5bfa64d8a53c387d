/- The law TraceReads holds for every input: what any line tells, how many lines are right, and which steps they tell, is as the document has it. -/
import Derived.Test.YtclgfgnhcakhdaaGreatDoorTRows51r
import Derived.Test.YtclgfgnhcakhdaaGreatDoorTie
import Derived.Test.YtclgfgnhcakhdaaGreatDoorCards
import Derived.SevenTiedAt
namespace Go.Proofs.YtclgfgnhcakhdaaGreatDoor
open Go.Am
set_option linter.unusedSimpArgs false
set_option linter.unusedVariables false
set_option maxRecDepth 100000
theorem traceReads_card : Rows.TraceReadsCardSaid :=
  Claim7.holds_tied_plain_at .later [] Rows.traceReadsCard.laidKinds true Rows.traceReadsCard.stood.harness false
    traceReads_holds (fun _ h => by cases h) (by as_aux_lemma => kernel_rfl) (fun _ h => by cases h) traceReads_row_tie rfl ⟨rfl, rfl⟩ (by as_aux_lemma => kernel_rfl) rfl
    (fun f fn hf hfn => by
      obtain rfl : f = 4 := Option.some.inj ((show Tryz.prog.funcNamed "carcanet/carcanetlaw51.TraceReads" = some 4 by kernel_rfl).symm.trans hf) |>.symm
      obtain rfl : fn = Tryz.f4 := (Option.some.inj (Tryz.func4.symm.trans hfn)).symm
      exact ⟨by kernel_rfl, fun j t ht => by
        have hp : Tryz.f4.params.toList = [9, 36, 9] := by as_aux_lemma => kernel_rfl
        have hm : t ∈ [9, 36, 9] := by rw [← hp]; exact Array.mem_toList_iff.2 (Array.mem_of_getElem? ht)
        have hall : ([9, 36, 9].all fun u => !Tryz.prog.wantsStandIn u) = true := by as_aux_lemma => kernel_rfl
        exact (show Tryz.prog.wantsStandIn t = false by simpa using List.all_eq_true.1 hall t hm)⟩)
    (by as_aux_lemma => kernel_rfl)
end Go.Proofs.YtclgfgnhcakhdaaGreatDoor
