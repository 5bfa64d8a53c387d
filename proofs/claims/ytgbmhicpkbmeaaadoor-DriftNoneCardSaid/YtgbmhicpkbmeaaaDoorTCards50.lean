/- Layer 50: how any two nodes differ, how many of any changes are of any kind, which ones they are the other way and how one is written is as the document has it; a node whose list and store may be differs from itself by nothing, and what came one way went the other way; conditions: what the listed tables hold is tied to the text by the card. -/
import Derived.Test.YtgbmhicpkbmeaaaDoorTRows50
import Derived.Test.YtgbmhicpkbmeaaaDoorTie
import Derived.Test.YtgbmhicpkbmeaaaDoorCards
import Derived.SevenTiedAt
namespace Go.Proofs.YtgbmhicpkbmeaaaDoor
open Go.Am
set_option linter.unusedSimpArgs false
set_option linter.unusedVariables false
set_option maxRecDepth 100000

theorem driftTells_card : Rows.DriftTellsCardSaid :=
  Claim7.holds_tied_plain_at .later [] Rows.driftTellsCard.laidKinds true Rows.driftTellsCard.stood.harness false
    driftTells_holds (fun _ h => by cases h) (by kernel_rfl) (fun _ h => by cases h) driftTells_row_tie rfl ⟨rfl, rfl⟩ (by kernel_rfl) rfl
    (fun f fn hf hfn => by
      obtain rfl : f = 6 := Option.some.inj ((show Tryd.prog.funcNamed "carcanet/carcanetlaw50.DriftTells" = some 6 by kernel_rfl).symm.trans hf) |>.symm
      obtain rfl : fn = Tryd.f6 := (Option.some.inj (Tryd.func6.symm.trans hfn)).symm
      exact ⟨by kernel_rfl, fun j t ht => by
        have hp : Tryd.f6.params.toList = [36, 36] := by kernel_rfl
        have hm : t ∈ [36, 36] := by rw [← hp]; exact Array.mem_toList_iff.2 (Array.mem_of_getElem? ht)
        have hall : ([36, 36].all fun u => !Tryd.prog.wantsStandIn u) = true := by kernel_rfl
        exact (show Tryd.prog.wantsStandIn t = false by simpa using List.all_eq_true.1 hall t hm)⟩)
    (by kernel_rfl)

theorem driftNone_card : Rows.DriftNoneCardSaid :=
  Claim7.holds_tied_plain_at .later [] Rows.driftNoneCard.laidKinds true Rows.driftNoneCard.stood.harness false
    driftNone_holds (fun _ h => by cases h) (by kernel_rfl) (fun _ h => by cases h) driftNone_row_tie rfl ⟨rfl, rfl⟩ (by kernel_rfl) rfl
    (fun f fn hf hfn => by
      obtain rfl : f = 8 := Option.some.inj ((show Tryd.prog.funcNamed "carcanet/carcanetlaw50.DriftNone" = some 8 by kernel_rfl).symm.trans hf) |>.symm
      obtain rfl : fn = Tryd.f8 := (Option.some.inj (Tryd.func8.symm.trans hfn)).symm
      exact ⟨by kernel_rfl, fun j t ht => by
        have hp : Tryd.f8.params.toList = [36, 36] := by kernel_rfl
        have hm : t ∈ [36, 36] := by rw [← hp]; exact Array.mem_toList_iff.2 (Array.mem_of_getElem? ht)
        have hall : ([36, 36].all fun u => !Tryd.prog.wantsStandIn u) = true := by kernel_rfl
        exact (show Tryd.prog.wantsStandIn t = false by simpa using List.all_eq_true.1 hall t hm)⟩)
    (by kernel_rfl)

theorem driftTurns_card : Rows.DriftTurnsCardSaid :=
  Claim7.holds_tied_plain_at .later [] Rows.driftTurnsCard.laidKinds true Rows.driftTurnsCard.stood.harness false
    driftTurns_holds (fun _ h => by cases h) (by kernel_rfl) (fun _ h => by cases h) driftTurns_row_tie rfl ⟨rfl, rfl⟩ (by kernel_rfl) rfl
    (fun f fn hf hfn => by
      obtain rfl : f = 7 := Option.some.inj ((show Tryd.prog.funcNamed "carcanet/carcanetlaw50.DriftTurns" = some 7 by kernel_rfl).symm.trans hf) |>.symm
      obtain rfl : fn = Tryd.f7 := (Option.some.inj (Tryd.func7.symm.trans hfn)).symm
      exact ⟨by kernel_rfl, fun j t ht => by
        have hp : Tryd.f7.params.toList = [54, 60] := by kernel_rfl
        have hm : t ∈ [54, 60] := by rw [← hp]; exact Array.mem_toList_iff.2 (Array.mem_of_getElem? ht)
        have hall : ([54, 60].all fun u => !Tryd.prog.wantsStandIn u) = true := by kernel_rfl
        exact (show Tryd.prog.wantsStandIn t = false by simpa using List.all_eq_true.1 hall t hm)⟩)
    (by kernel_rfl)


end Go.Proofs.YtgbmhicpkbmeaaaDoor
