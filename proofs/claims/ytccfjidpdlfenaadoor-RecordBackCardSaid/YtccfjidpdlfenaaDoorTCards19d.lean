/- Proved: heads of records are written and read, and records opened again, as the document has it. -/
import Derived.Test.YtccfjidpdlfenaaDoorTRows19d
import Derived.Test.YtccfjidpdlfenaaDoorTie
import Derived.Test.YtccfjidpdlfenaaDoorCards
import Derived.SevenTiedAt
namespace Go.Proofs.YtccfjidpdlfenaaDoor
open Go.Am
set_option linter.unusedSimpArgs false
set_option linter.unusedVariables false
set_option maxRecDepth 100000

theorem recordHeads_card : Rows.RecordHeadsCardSaid :=
  Claim7.holds_tied_plain_at .later [] Rows.recordHeadsCard.laidKinds true Rows.recordHeadsCard.stood.harness false
    recordHeads_holds (fun _ h => by cases h) (by kernel_rfl) (fun _ h => by cases h) recordHeads_row_tie rfl ⟨rfl, rfl⟩ (by kernel_rfl) rfl
    (fun f fn hf hfn => by
      obtain rfl : f = 7 := Option.some.inj ((show Tryd.prog.funcNamed "carcanet/carcanetlaw19.RecordHeads" = some 7 by kernel_rfl).symm.trans hf) |>.symm
      obtain rfl : fn = Tryd.f7 := (Option.some.inj (Tryd.func7.symm.trans hfn)).symm
      exact ⟨by kernel_rfl, fun j t ht => by
        have hp : Tryd.f7.params.toList = [54, 45] := by kernel_rfl
        have hm : t ∈ [54, 45] := by rw [← hp]; exact Array.mem_toList_iff.2 (Array.mem_of_getElem? ht)
        have hall : ([54, 45].all fun u => !Tryd.prog.wantsStandIn u) = true := by kernel_rfl
        exact (show Tryd.prog.wantsStandIn t = false by simpa using List.all_eq_true.1 hall t hm)⟩)
    (by kernel_rfl)

theorem recordBack_card : Rows.RecordBackCardSaid :=
  Claim7.holds_tied_plain_at .later [] Rows.recordBackCard.laidKinds true Rows.recordBackCard.stood.harness false
    recordBack_holds (fun _ h => by cases h) (by kernel_rfl) (fun _ h => by cases h) recordBack_row_tie rfl ⟨rfl, rfl⟩ (by kernel_rfl) rfl
    (fun f fn hf hfn => by
      obtain rfl : f = 8 := Option.some.inj ((show Tryd.prog.funcNamed "carcanet/carcanetlaw19.RecordBack" = some 8 by kernel_rfl).symm.trans hf) |>.symm
      obtain rfl : fn = Tryd.f8 := (Option.some.inj (Tryd.func8.symm.trans hfn)).symm
      exact ⟨by kernel_rfl, fun j t ht => by
        have hp : Tryd.f8.params.toList = [9, 54, 45, 5, 5] := by kernel_rfl
        have hm : t ∈ [9, 54, 45, 5, 5] := by rw [← hp]; exact Array.mem_toList_iff.2 (Array.mem_of_getElem? ht)
        have hall : ([9, 54, 45, 5, 5].all fun u => !Tryd.prog.wantsStandIn u) = true := by kernel_rfl
        exact (show Tryd.prog.wantsStandIn t = false by simpa using List.all_eq_true.1 hall t hm)⟩)
    (by kernel_rfl)


end Go.Proofs.YtccfjidpdlfenaaDoor
