/- Proved: what was locked is unlocked, as it was; changed it is not. -/
import Derived.Test.YtccfjidpdlfenaaDoorTRows49d
import Derived.Test.YtccfjidpdlfenaaDoorTie
import Derived.Test.YtccfjidpdlfenaaDoorCards
import Derived.SevenTiedAt
namespace Go.Proofs.YtccfjidpdlfenaaDoor
open Go.Am
set_option linter.unusedSimpArgs false
set_option linter.unusedVariables false
set_option maxRecDepth 100000

theorem vaultBack_card : Rows.VaultBackCardSaid :=
  Claim7.holds_tied_plain_at .later [] Rows.vaultBackCard.laidKinds true Rows.vaultBackCard.stood.harness false
    vaultBack_holds (fun _ h => by cases h) (by kernel_rfl) (fun _ h => by cases h) vaultBack_row_tie rfl ⟨rfl, rfl⟩ (by kernel_rfl) rfl
    (fun f fn hf hfn => by
      obtain rfl : f = 6 := Option.some.inj ((show Tryd.prog.funcNamed "carcanet/carcanetlaw49.VaultBack" = some 6 by kernel_rfl).symm.trans hf) |>.symm
      obtain rfl : fn = Tryd.f6 := (Option.some.inj (Tryd.func6.symm.trans hfn)).symm
      exact ⟨by kernel_rfl, fun j t ht => by
        have hp : Tryd.f6.params.toList = [9, 43, 5, 5] := by kernel_rfl
        have hm : t ∈ [9, 43, 5, 5] := by rw [← hp]; exact Array.mem_toList_iff.2 (Array.mem_of_getElem? ht)
        have hall : ([9, 43, 5, 5].all fun u => !Tryd.prog.wantsStandIn u) = true := by kernel_rfl
        exact (show Tryd.prog.wantsStandIn t = false by simpa using List.all_eq_true.1 hall t hm)⟩)
    (by kernel_rfl)


end Go.Proofs.YtccfjidpdlfenaaDoor
