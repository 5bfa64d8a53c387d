import Derived.Test.YtccfjidpdlfenaaDoorTRows18k
import Derived.Test.YtccfjidpdlfenaaDoorTie
import Derived.Test.YtccfjidpdlfenaaDoorCards
import Derived.SevenTiedAt
namespace Go.Proofs.YtccfjidpdlfenaaDoor
open Go.Am
set_option linter.unusedSimpArgs false
set_option linter.unusedVariables false
set_option maxRecDepth 100000

theorem keysRoots_card : Rows.KeysRootsCardSaid :=
  Claim7.holds_tied_plain_at .later [] Rows.keysRootsCard.laidKinds true Rows.keysRootsCard.stood.harness false
    keysRoots_holds (fun _ h => by cases h) (by kernel_rfl) (fun _ h => by cases h) keysRoots_row_tie rfl ⟨rfl, rfl⟩ (by kernel_rfl) rfl
    (fun f fn hf hfn => by
      obtain rfl : f = 4 := Option.some.inj ((show Tryd.prog.funcNamed "carcanet/carcanetlaw18.KeysRoots" = some 4 by kernel_rfl).symm.trans hf) |>.symm
      obtain rfl : fn = Tryd.f4 := (Option.some.inj (Tryd.func4.symm.trans hfn)).symm
      exact ⟨by kernel_rfl, fun j t ht => by
        have hp : Tryd.f4.params.toList = [9, 23, 23, 35, 35, 3] := by kernel_rfl
        have hm : t ∈ [9, 23, 23, 35, 35, 3] := by rw [← hp]; exact Array.mem_toList_iff.2 (Array.mem_of_getElem? ht)
        have hall : ([9, 23, 23, 35, 35, 3].all fun u => !Tryd.prog.wantsStandIn u) = true := by kernel_rfl
        exact (show Tryd.prog.wantsStandIn t = false by simpa using List.all_eq_true.1 hall t hm)⟩)
    (by kernel_rfl)

theorem keysMine_card : Rows.KeysMineCardSaid :=
  Claim7.holds_tied_plain_at .later [] Rows.keysMineCard.laidKinds true Rows.keysMineCard.stood.harness false
    keysMine_holds (fun _ h => by cases h) (by kernel_rfl) (fun _ h => by cases h) keysMine_row_tie rfl ⟨rfl, rfl⟩ (by kernel_rfl) rfl
    (fun f fn hf hfn => by
      obtain rfl : f = 5 := Option.some.inj ((show Tryd.prog.funcNamed "carcanet/carcanetlaw18.KeysMine" = some 5 by kernel_rfl).symm.trans hf) |>.symm
      obtain rfl : fn = Tryd.f5 := (Option.some.inj (Tryd.func5.symm.trans hfn)).symm
      exact ⟨by kernel_rfl, fun j t ht => by
        have hp : Tryd.f5.params.toList = [9, 23, 23, 35, 35, 3] := by kernel_rfl
        have hm : t ∈ [9, 23, 23, 35, 35, 3] := by rw [← hp]; exact Array.mem_toList_iff.2 (Array.mem_of_getElem? ht)
        have hall : ([9, 23, 23, 35, 35, 3].all fun u => !Tryd.prog.wantsStandIn u) = true := by kernel_rfl
        exact (show Tryd.prog.wantsStandIn t = false by simpa using List.all_eq_true.1 hall t hm)⟩)
    (by kernel_rfl)


end Go.Proofs.YtccfjidpdlfenaaDoor
