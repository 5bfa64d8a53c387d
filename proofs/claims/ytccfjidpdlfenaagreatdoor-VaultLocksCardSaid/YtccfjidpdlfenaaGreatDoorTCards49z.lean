/- Proved: a vault is locked, and unlocked, as the document has it. -/
import Derived.Test.YtccfjidpdlfenaaGreatDoorTRows49z
import Derived.Test.YtccfjidpdlfenaaGreatDoorTie
import Derived.Test.YtccfjidpdlfenaaGreatDoorCards
import Derived.SevenTiedAt
namespace Go.Proofs.YtccfjidpdlfenaaGreatDoor
open Go.Am
set_option linter.unusedSimpArgs false
set_option linter.unusedVariables false
set_option maxRecDepth 100000

theorem vaultLocks_card : Rows.VaultLocksCardSaid :=
  Claim7.holds_tied_plain_at .later [] Rows.vaultLocksCard.laidKinds true Rows.vaultLocksCard.stood.harness false
    vaultLocks_holds (fun _ h => by cases h) (by kernel_rfl) (fun _ h => by cases h) vaultLocks_row_tie rfl ⟨rfl, rfl⟩ (by kernel_rfl) rfl
    (fun f fn hf hfn => by
      obtain rfl : f = 3 := Option.some.inj ((show Tryz.prog.funcNamed "carcanet/carcanetlaw49.VaultLocks" = some 3 by kernel_rfl).symm.trans hf) |>.symm
      obtain rfl : fn = Tryz.f3 := (Option.some.inj (Tryz.func3.symm.trans hfn)).symm
      exact ⟨by kernel_rfl, fun j t ht => by
        have hp : Tryz.f3.params.toList = [9, 25] := by kernel_rfl
        have hm : t ∈ [9, 25] := by rw [← hp]; exact Array.mem_toList_iff.2 (Array.mem_of_getElem? ht)
        have hall : ([9, 25].all fun u => !Tryz.prog.wantsStandIn u) = true := by kernel_rfl
        exact (show Tryz.prog.wantsStandIn t = false by simpa using List.all_eq_true.1 hall t hm)⟩)
    (by kernel_rfl)

theorem vaultForged_card : Rows.VaultForgedCardSaid :=
  Claim7.holds_tied_plain_at .later [] Rows.vaultForgedCard.laidKinds true Rows.vaultForgedCard.stood.harness false
    vaultForged_holds (fun _ h => by cases h) (by kernel_rfl) (fun _ h => by cases h) vaultForged_row_tie rfl ⟨rfl, rfl⟩ (by kernel_rfl) rfl
    (fun f fn hf hfn => by
      obtain rfl : f = 4 := Option.some.inj ((show Tryz.prog.funcNamed "carcanet/carcanetlaw49.VaultForged" = some 4 by kernel_rfl).symm.trans hf) |>.symm
      obtain rfl : fn = Tryz.f4 := (Option.some.inj (Tryz.func4.symm.trans hfn)).symm
      exact ⟨by kernel_rfl, fun j t ht => by
        have hp : Tryz.f4.params.toList = [9, 9, 22, 28] := by kernel_rfl
        have hm : t ∈ [9, 9, 22, 28] := by rw [← hp]; exact Array.mem_toList_iff.2 (Array.mem_of_getElem? ht)
        have hall : ([9, 9, 22, 28].all fun u => !Tryz.prog.wantsStandIn u) = true := by kernel_rfl
        exact (show Tryz.prog.wantsStandIn t = false by simpa using List.all_eq_true.1 hall t hm)⟩)
    (by kernel_rfl)

theorem vaultUnlocks_card : Rows.VaultUnlocksCardSaid :=
  Claim7.holds_tied_plain_at .later [] Rows.vaultUnlocksCard.laidKinds true Rows.vaultUnlocksCard.stood.harness false
    vaultUnlocks_holds (fun _ h => by cases h) (by kernel_rfl) (fun _ h => by cases h) vaultUnlocks_row_tie rfl ⟨rfl, rfl⟩ (by kernel_rfl) rfl
    (fun f fn hf hfn => by
      obtain rfl : f = 5 := Option.some.inj ((show Tryz.prog.funcNamed "carcanet/carcanetlaw49.VaultUnlocks" = some 5 by kernel_rfl).symm.trans hf) |>.symm
      obtain rfl : fn = Tryz.f5 := (Option.some.inj (Tryz.func5.symm.trans hfn)).symm
      exact ⟨by kernel_rfl, fun j t ht => by
        have hp : Tryz.f5.params.toList = [9, 28] := by kernel_rfl
        have hm : t ∈ [9, 28] := by rw [← hp]; exact Array.mem_toList_iff.2 (Array.mem_of_getElem? ht)
        have hall : ([9, 28].all fun u => !Tryz.prog.wantsStandIn u) = true := by kernel_rfl
        exact (show Tryz.prog.wantsStandIn t = false by simpa using List.all_eq_true.1 hall t hm)⟩)
    (by kernel_rfl)


end Go.Proofs.YtccfjidpdlfenaaGreatDoor
