/- Proved: a record is sealed, and opened, as the document has it. -/
import Derived.Test.YtccfjidpdlfenaaGreatDoorTRows19z
import Derived.Test.YtccfjidpdlfenaaGreatDoorTie
import Derived.Test.YtccfjidpdlfenaaGreatDoorCards
import Derived.SevenTiedAt
namespace Go.Proofs.YtccfjidpdlfenaaGreatDoor
open Go.Am
set_option linter.unusedSimpArgs false
set_option linter.unusedVariables false
set_option maxRecDepth 100000

theorem recordSeals_card : Rows.RecordSealsCardSaid :=
  Claim7.holds_tied_plain_at .later [] Rows.recordSealsCard.laidKinds true Rows.recordSealsCard.stood.harness false
    recordSeals_holds (fun _ h => by cases h) (by kernel_rfl) (fun _ h => by cases h) recordSeals_row_tie rfl ⟨rfl, rfl⟩ (by kernel_rfl) rfl
    (fun f fn hf hfn => by
      obtain rfl : f = 6 := Option.some.inj ((show Tryz.prog.funcNamed "carcanet/carcanetlaw19.RecordSeals" = some 6 by kernel_rfl).symm.trans hf) |>.symm
      obtain rfl : fn = Tryz.f6 := (Option.some.inj (Tryz.func6.symm.trans hfn)).symm
      exact ⟨by kernel_rfl, fun j t ht => by
        have hp : Tryz.f6.params.toList = [9, 55, 28] := by kernel_rfl
        have hm : t ∈ [9, 55, 28] := by rw [← hp]; exact Array.mem_toList_iff.2 (Array.mem_of_getElem? ht)
        have hall : ([9, 55, 28].all fun u => !Tryz.prog.wantsStandIn u) = true := by kernel_rfl
        exact (show Tryz.prog.wantsStandIn t = false by simpa using List.all_eq_true.1 hall t hm)⟩)
    (by kernel_rfl)

theorem recordOpens_card : Rows.RecordOpensCardSaid :=
  Claim7.holds_tied_plain_at .later [] Rows.recordOpensCard.laidKinds true Rows.recordOpensCard.stood.harness false
    recordOpens_holds (fun _ h => by cases h) (by kernel_rfl) (fun _ h => by cases h) recordOpens_row_tie rfl ⟨rfl, rfl⟩ (by kernel_rfl) rfl
    (fun f fn hf hfn => by
      obtain rfl : f = 7 := Option.some.inj ((show Tryz.prog.funcNamed "carcanet/carcanetlaw19.RecordOpens" = some 7 by kernel_rfl).symm.trans hf) |>.symm
      obtain rfl : fn = Tryz.f7 := (Option.some.inj (Tryz.func7.symm.trans hfn)).symm
      exact ⟨by kernel_rfl, fun j t ht => by
        have hp : Tryz.f7.params.toList = [9, 28] := by kernel_rfl
        have hm : t ∈ [9, 28] := by rw [← hp]; exact Array.mem_toList_iff.2 (Array.mem_of_getElem? ht)
        have hall : ([9, 28].all fun u => !Tryz.prog.wantsStandIn u) = true := by kernel_rfl
        exact (show Tryz.prog.wantsStandIn t = false by simpa using List.all_eq_true.1 hall t hm)⟩)
    (by kernel_rfl)


end Go.Proofs.YtccfjidpdlfenaaGreatDoor
