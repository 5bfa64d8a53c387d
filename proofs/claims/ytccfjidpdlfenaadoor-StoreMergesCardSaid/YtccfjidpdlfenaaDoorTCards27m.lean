import Derived.Test.YtccfjidpdlfenaaDoorTRows27m
import Derived.Test.YtccfjidpdlfenaaDoorTie
import Derived.Test.YtccfjidpdlfenaaDoorCards
import Derived.SevenTiedAt
namespace Go.Proofs.YtccfjidpdlfenaaDoor
open Go.Am
set_option linter.unusedSimpArgs false
set_option linter.unusedVariables false
set_option maxRecDepth 100000

theorem storeMerges_card : Rows.StoreMergesCardSaid :=
  Claim7.holds_tied_plain_at .later [] Rows.storeMergesCard.laidKinds true Rows.storeMergesCard.stood.harness false
    storeMerges_holds (fun _ h => by cases h) (by kernel_rfl) (fun _ h => by cases h) storeMerges_row_tie rfl ⟨rfl, rfl⟩ (by kernel_rfl) rfl
    (fun f fn hf hfn => by
      obtain rfl : f = 3 := Option.some.inj ((show Tryd.prog.funcNamed "carcanet/carcanetlaw27.StoreMerges" = some 3 by kernel_rfl).symm.trans hf) |>.symm
      obtain rfl : fn = Tryd.f3 := (Option.some.inj (Tryd.func3.symm.trans hfn)).symm
      exact ⟨by kernel_rfl, fun j t ht => by
        have hp : Tryd.f3.params.toList = [22, 22, 23, 23] := by kernel_rfl
        have hm : t ∈ [22, 22, 23, 23] := by rw [← hp]; exact Array.mem_toList_iff.2 (Array.mem_of_getElem? ht)
        have hall : ([22, 22, 23, 23].all fun u => !Tryd.prog.wantsStandIn u) = true := by kernel_rfl
        exact (show Tryd.prog.wantsStandIn t = false by simpa using List.all_eq_true.1 hall t hm)⟩)
    (by kernel_rfl)


end Go.Proofs.YtccfjidpdlfenaaDoor
