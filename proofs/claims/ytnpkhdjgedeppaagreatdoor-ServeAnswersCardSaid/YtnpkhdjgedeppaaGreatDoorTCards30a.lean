/- The statement ServeAnswers holds for every input: what any node answers to any message of any node,and what it becomes,is as the document has it;it stays as it is. -/
import Derived.Test.YtnpkhdjgedeppaaGreatDoorTRows30a
import Derived.Test.YtnpkhdjgedeppaaGreatDoorTie
import Derived.Test.YtnpkhdjgedeppaaGreatDoorCards
import Derived.SevenTiedAt
namespace Go.Proofs.YtnpkhdjgedeppaaGreatDoor
open Go.Am
set_option linter.unusedSimpArgs false
set_option linter.unusedVariables false
set_option maxRecDepth 100000
theorem serveAnswers_card:Rows.ServeAnswersCardSaid:=
 Claim7.holds_tied_plain_at .later [] Rows.serveAnswersCard.laidKinds true Rows.serveAnswersCard.stood.harness false
  serveAnswers_holds (fun _ h=>by cases h) (by as_aux_lemma=>kernel_rfl) (fun _ h=>by cases h) serveAnswers_row_tie rfl ⟨rfl,rfl⟩ (by as_aux_lemma=>kernel_rfl) rfl
  (fun f fn hf hfn=>by
   obtain rfl:f=5:=Option.some.inj ((show Tryz.prog.funcNamed "carcanet/carcanetlaw30.ServeAnswers"=some 5 by kernel_rfl).symm.trans hf) |>.symm
   obtain rfl:fn=Tryz.f5:=(Option.some.inj (Tryz.func5.symm.trans hfn)).symm
   exact ⟨by kernel_rfl,fun j t ht=>by
    have hp:Tryz.f5.params.toList=[36,24,42]:=by as_aux_lemma=>kernel_rfl
    have hm:t∈[36,24,42]:=by rw [←hp];exact Array.mem_toList_iff.2 (Array.mem_of_getElem? ht)
    have hall:([36,24,42].all fun u=>!Tryz.prog.wantsStandIn u)=true:=by as_aux_lemma=>kernel_rfl
    exact (show Tryz.prog.wantsStandIn t=false by simpa using List.all_eq_true.1 hall t hm)⟩)
  (by as_aux_lemma=>kernel_rfl)
end Go.Proofs.YtnpkhdjgedeppaaGreatDoor
