/- The statement LearnLate holds for every input: what any node becomes when any request of it was not answered,whom it asks of those that it is told of,and what it sends,is as the document has it. -/
import Derived.Test.YtnpkhdjgedeppaaGreatDoorTRows32b
import Derived.Test.YtnpkhdjgedeppaaGreatDoorTie
import Derived.Test.YtnpkhdjgedeppaaGreatDoorCards
import Derived.SevenTiedAt
namespace Go.Proofs.YtnpkhdjgedeppaaGreatDoor
open Go.Am
set_option linter.unusedSimpArgs false
set_option linter.unusedVariables false
set_option maxRecDepth 100000
theorem learnLate_card:Rows.LearnLateCardSaid:=
 Claim7.holds_tied_plain_at .later [] Rows.learnLateCard.laidKinds true Rows.learnLateCard.stood.harness false
  learnLate_holds (fun _ h=>by cases h) (by as_aux_lemma=>kernel_rfl) (fun _ h=>by cases h) learnLate_row_tie rfl ⟨rfl,rfl⟩ (by as_aux_lemma=>kernel_rfl) rfl
  (fun f fn hf hfn=>by
   obtain rfl:f=9:=Option.some.inj ((show Tryz.prog.funcNamed "carcanet/carcanetlaw32.LearnLate"=some 9 by kernel_rfl).symm.trans hf) |>.symm
   obtain rfl:fn=Tryz.f9:=(Option.some.inj (Tryz.func9.symm.trans hfn)).symm
   exact ⟨by kernel_rfl,fun j t ht=>by
    have hp:Tryz.f9.params.toList=[36,69,40]:=by as_aux_lemma=>kernel_rfl
    have hm:t∈[36,69,40]:=by rw [←hp];exact Array.mem_toList_iff.2 (Array.mem_of_getElem? ht)
    have hall:([36,69,40].all fun u=>!Tryz.prog.wantsStandIn u)=true:=by as_aux_lemma=>kernel_rfl
    exact (show Tryz.prog.wantsStandIn t=false by simpa using List.all_eq_true.1 hall t hm)⟩)
  (by as_aux_lemma=>kernel_rfl)
end Go.Proofs.YtnpkhdjgedeppaaGreatDoor
