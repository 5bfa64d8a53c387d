import Derived.Test.YtnpkhdjgedeppaaGreatDoorTSrv4
import Derived.Test.YtnpkhdjgedeppaaGreatDoorBr4
import Derived.Test.YtnpkhdjgedeppaaGreatDoorRows
import Derived.LaidMore
import Derived.OpenShut
import Derived.Stop.Joined
import Derived.MakeChecks
namespace Go.Proofs.YtnpkhdjgedeppaaGreatDoor
set_option maxHeartbeats 64000000
open Go.Am
open Go.ChangeShapes Go.WideShapes Go.ChangeAt Go.RowKit
set_option linter.unusedSimpArgs false
set_option linter.unusedVariables false
set_option maxRecDepth 100000
theorem qf2 (ds:List AVal) (h:TAs C3.E.P Tryz.f5.params.toList ds):fn C3 5 [] ds=some (.bool true,[]):=by
 have h:=qxM h (show qnf C3.E.P 8 Tryz.f5.params.toList=some [(true,qIo),(true,qtK),(true,qGp)] by kernel_rfl)
 simp only [qqX,qqY,qqZ,Sh,Shs]at h
 obtain ⟨_,_,rfl,ha,_,_,rfl,hb,_,_,rfl,hc,rfl⟩:=h
 obtain ⟨n,rfl,o1,f1⟩:=qMp ha
 obtain ⟨e,rfl,o2,f2⟩:=qx6 hb
 obtain ⟨m,rfl,o3,f3⟩:=qJW hc
 exact e5 n e m o1 f1 o2 f2 o3 f3
abbrev qs8:List (String×DataW Unit):=[("carcanet/digest.constants",Rows.laid_carcanet_digest_constants)]
theorem qw9 (os:Os) (args:Array Value):laidMetH Tryz.prog qs8 ((World.doorLaid Tryz.prog 29 os).forCall (fun _ _=>0) ⟨#[],args,[]⟩).memory:=
 laidMetH_of_parts3 (fuel:=8) (laidMet_of_run' 8 (by kernel_rfl) (by kernel_rfl)) (by kernel_rfl) (by kernel_rfl)
theorem qId {W:World} (h:laidMetH Tryz.prog qs8 W):qdx C3.E.Γ (fun b=>b<W.heap.size) W:=by
 rw [MakeChecks.laidMetH_plain _ _ _ (by kernel_rfl)]at h
 refine qlx (P:=Tryz.prog) (ts:=qF5) ?_ ?_
 ·intro t ht
  simp only [qF5,List.mem_cons,List.not_mem_nil,or_false]at ht
  rcases ht with rfl<;>kernel_rfl
 ·intro t ht
  simp only [qF5,List.mem_cons,List.not_mem_nil,or_false]at ht
  rcases ht with rfl
  ·exact qhn (g:=0) (t:=270) (e:=231) (n:=64) (by kernel_rfl) (by kernel_rfl) (by kernel_rfl) (by kernel_rfl) (by kernel_rfl) (by kernel_rfl) (Lib.laidMet.reads h (.head _))
theorem qeB (os:Os) (started:os.Started) (H:Type) (enc:TypeId×Value→H) :
  ReturnsInHanded {} Tryz.checked os 5 .any (fun w args=>(Rows.serveAnswersSpec.pre enc Tryz.prog Tryz.f5 [] false w args∧laidMetH Tryz.prog qs8 w)∧sizedMet enc Tryz.prog Tryz.f5 (OpenSpec.ofChange Rows.serveAnswersSpec) false w args) (Rows.serveAnswersSpec.post enc Tryz.prog Tryz.f5 Rows.serveAnswersRow.apart Rows.serveAnswersRow.fresh Rows.serveAnswersRow.handsOn Rows.serveAnswersRow.again):=by
 refine returnsInHanded_of_change_and (C:=Tryz.checked) (X:=fun w _=>laidMetH Tryz.prog qs8 w) (fun _ _ _ hh h=>h.of_heap hh) (by kernel_rfl) started (by kernel_rfl) Tryz.func5
  (ChangeSpec.witness_shaped (enc:=enc) (C:=Tryz.checked) (os:=os) (X:=fun w _=>laidMetH Tryz.prog qs8 w) false (World.doorLaid Tryz.prog 29 os) #[.agg #[.string ⟨#[]⟩,.int .u64 0,.int .i64 0,.int .i64 0,.int .i64 0,.string ⟨#[]⟩,.int .i64 0,.string ⟨#[]⟩,.int .i64 0,.string ⟨#[]⟩,.bool false,.slice none 0 0,.slice none 0 0,.slice none 0 0,.slice none 0 0,.slice none 0 0,.slice none 0 0,.slice none 0 0,.int .i64 0,.int .i64 0,.slice none 0 0,.slice none 0 0],.agg #[.string ⟨#[]⟩,.int .u64 0,.int .i64 0,.int .i64 0,.int .i64 0,.string ⟨#[]⟩],.agg #[.int .i64 0,.int .i64 0,.int .i64 0,.int .i64 0,.int .u64 0,.bool false,.bool false,.string ⟨#[]⟩,.string ⟨#[]⟩,.slice none 0 0,.slice none 0 0]] 8 rfl (World.shaped_of_RefB (by kernel_rfl) (by kernel_rfl)) (by kernel_rfl) (by kernel_rfl) (by kernel_rfl) (qw9 os _)) ?_
 intro W base args ds gs before hval hW _ _ hL _
 refine qiE (C:=C3) (m:=8) qbb qBs (by kernel_rfl) rfl (fun ds hd=>?_) qf2 W (qId hL) base args ds gs before hval hW
 match ds,hd with
 | [_,_,_],_=>rfl
theorem qeC:joinedFacts Tryz.pinned.checked.prog 5 Tryz.f5 Rows.serveAnswersSpec Rows.serveAnswersRow=true:=by
 unfold joinedFacts
 simp only [Bool.and_eq_true]
 and_intros
 all_goals as_aux_lemma=>kernel_rfl
theorem serveAnswers_holds:Rows.ServeAnswersSaid:=
 OpenClaim.holds_of_wide 5 Tryz.f5 rfl rfl rfl rfl rfl rfl rfl ⟨rfl,rfl,rfl,rfl,rfl⟩ rfl rfl rfl rfl rfl (by as_aux_lemma=>kernel_rfl) Tryz.func5 qeC
  (of_decide_eq_true (by as_aux_lemma=>kernel_rfl)) (by unfold Func.isWrapper;rw [if_neg (by decide +kernel)];exact ⟨rfl,rfl⟩)
  (fun os started H enc _=>qeB os started H enc)
end Go.Proofs.YtnpkhdjgedeppaaGreatDoor
