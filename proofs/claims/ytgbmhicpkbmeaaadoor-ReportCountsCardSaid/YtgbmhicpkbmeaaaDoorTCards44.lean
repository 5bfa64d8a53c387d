/- Layer 44: which lines any node is, and which words any entry, result and packet, is as the document has it, and there is one line of a node and one for each thing that it has; conditions: what the listed tables hold is tied to the text by the card. -/
import Derived.Test.YtgbmhicpkbmeaaaDoorTRows44
import Derived.Test.YtgbmhicpkbmeaaaDoorTie
import Derived.Test.YtgbmhicpkbmeaaaDoorCards
import Derived.SevenTiedAt
namespace Go.Proofs.YtgbmhicpkbmeaaaDoor
open Go.Am
set_option linter.unusedSimpArgs false
set_option linter.unusedVariables false
set_option maxRecDepth 100000

theorem reportNodes_card : Rows.ReportNodesCardSaid :=
  Claim7.holds_tied_plain_at .later [] Rows.reportNodesCard.laidKinds true Rows.reportNodesCard.stood.harness false
    reportNodes_holds (fun _ h => by cases h) (by kernel_rfl) (fun _ h => by cases h) reportNodes_row_tie rfl ⟨rfl, rfl⟩ (by kernel_rfl) rfl
    (fun f fn hf hfn => by
      obtain rfl : f = 3 := Option.some.inj ((show Tryd.prog.funcNamed "carcanet/carcanetlaw44.ReportNodes" = some 3 by kernel_rfl).symm.trans hf) |>.symm
      obtain rfl : fn = Tryd.f3 := (Option.some.inj (Tryd.func3.symm.trans hfn)).symm
      exact ⟨by kernel_rfl, fun j t ht => by
        have hp : Tryd.f3.params.toList = [36] := by kernel_rfl
        have hm : t ∈ [36] := by rw [← hp]; exact Array.mem_toList_iff.2 (Array.mem_of_getElem? ht)
        have hall : ([36].all fun u => !Tryd.prog.wantsStandIn u) = true := by kernel_rfl
        exact (show Tryd.prog.wantsStandIn t = false by simpa using List.all_eq_true.1 hall t hm)⟩)
    (by kernel_rfl)

theorem reportCounts_card : Rows.ReportCountsCardSaid :=
  Claim7.holds_tied_plain_at .later [] Rows.reportCountsCard.laidKinds true Rows.reportCountsCard.stood.harness false
    reportCounts_holds (fun _ h => by cases h) (by kernel_rfl) (fun _ h => by cases h) reportCounts_row_tie rfl ⟨rfl, rfl⟩ (by kernel_rfl) rfl
    (fun f fn hf hfn => by
      obtain rfl : f = 5 := Option.some.inj ((show Tryd.prog.funcNamed "carcanet/carcanetlaw44.ReportCounts" = some 5 by kernel_rfl).symm.trans hf) |>.symm
      obtain rfl : fn = Tryd.f5 := (Option.some.inj (Tryd.func5.symm.trans hfn)).symm
      exact ⟨by kernel_rfl, fun j t ht => by
        have hp : Tryd.f5.params.toList = [36] := by kernel_rfl
        have hm : t ∈ [36] := by rw [← hp]; exact Array.mem_toList_iff.2 (Array.mem_of_getElem? ht)
        have hall : ([36].all fun u => !Tryd.prog.wantsStandIn u) = true := by kernel_rfl
        exact (show Tryd.prog.wantsStandIn t = false by simpa using List.all_eq_true.1 hall t hm)⟩)
    (by kernel_rfl)

theorem reportOnes_card : Rows.ReportOnesCardSaid :=
  Claim7.holds_tied_plain_at .later [] Rows.reportOnesCard.laidKinds true Rows.reportOnesCard.stood.harness false
    reportOnes_holds (fun _ h => by cases h) (by kernel_rfl) (fun _ h => by cases h) reportOnes_row_tie rfl ⟨rfl, rfl⟩ (by kernel_rfl) rfl
    (fun f fn hf hfn => by
      obtain rfl : f = 4 := Option.some.inj ((show Tryd.prog.funcNamed "carcanet/carcanetlaw44.ReportOnes" = some 4 by kernel_rfl).symm.trans hf) |>.symm
      obtain rfl : fn = Tryd.f4 := (Option.some.inj (Tryd.func4.symm.trans hfn)).symm
      exact ⟨by kernel_rfl, fun j t ht => by
        have hp : Tryd.f4.params.toList = [24, 44, 47] := by kernel_rfl
        have hm : t ∈ [24, 44, 47] := by rw [← hp]; exact Array.mem_toList_iff.2 (Array.mem_of_getElem? ht)
        have hall : ([24, 44, 47].all fun u => !Tryd.prog.wantsStandIn u) = true := by kernel_rfl
        exact (show Tryd.prog.wantsStandIn t = false by simpa using List.all_eq_true.1 hall t hm)⟩)
    (by kernel_rfl)


end Go.Proofs.YtgbmhicpkbmeaaaDoor
