import Derived.Test.YtnpkhdjgedeppaaGreatDoorTLearn1
import Derived.Test.YtnpkhdjgedeppaaGreatDoorBr4
import Derived.Test.YtnpkhdjgedeppaaGreatDoorRows
import Derived.LaidMore
import Derived.OpenShut
import Derived.Stop.Joined
import Derived.MakeChecks
namespace Go.Proofs.YtnpkhdjgedeppaaGreatDoor
set_option maxHeartbeats 64000000
open Go.Am
open Go.ChangeShapes Go.WideShapes Go.ChangeAt Go.RowKit
set_option linter.unusedSimpArgs false
set_option linter.unusedVariables false
set_option maxRecDepth 100000
theorem qjM (ds:List AVal) (h:TAs C5.E.P Tryz.f9.params.toList ds):fn C5 9 [] ds=some (.bool true,[]):=by
 have h:=qr7 h (show qkK C5.E.P 8 Tryz.f9.params.toList=some [(true,qI5),(true,qIh),(false,[.sl 6 qus])] by kernel_rfl)
 simp only [qkL,qkM,qkN,Sh,Shs]at h
 obtain ⟨_,_,rfl,ha,_,_,rfl,hp,_,_,rfl,⟨es,rfl,hl,hr⟩,rfl⟩:=h
 obtain ⟨n,rfl,o1,f1⟩:=qMT ha
 obtain ⟨p,rfl,o2,f2⟩:=qLg hp
 obtain ⟨l,rfl,hx⟩:=qby En.cs (fun e=>e.ok∧e.fit) (fun r hr'=>qyO (hr r hr'))
 exact e9 n p l o1 f1 f2 (by simpa using hl) (fun e he=>(hx e he).1) (fun e he=>(hx e he).2)
abbrev qhI:List (String×DataW Unit):=[("carcanet/digest.constants",Rows.laid_carcanet_digest_constants)]
theorem qjL (os:Os) (args:Array Value):laidMetH Tryz.prog qhI ((World.doorLaid Tryz.prog 29 os).forCall (fun _ _=>0) ⟨#[],args,[]⟩).memory:=
 laidMetH_of_parts3 (fuel:=8) (laidMet_of_run' 8 (by kernel_rfl) (by kernel_rfl)) (by kernel_rfl) (by kernel_rfl)
theorem qDr {W:World} (h:laidMetH Tryz.prog qhI W):qdf C5.E.Γ (fun b=>b<W.heap.size) W:=by
 rw [MakeChecks.laidMetH_plain _ _ _ (by kernel_rfl)]at h
 refine qhb (P:=Tryz.prog) (ts:=qCq) ?_ ?_
 ·intro t ht
  simp only [qCq,List.mem_cons,List.not_mem_nil,or_false]at ht
  rcases ht with rfl<;>kernel_rfl
 ·intro t ht
  simp only [qCq,List.mem_cons,List.not_mem_nil,or_false]at ht
  rcases ht with rfl
  ·exact qey (g:=0) (t:=270) (e:=231) (n:=64) (by kernel_rfl) (by kernel_rfl) (by kernel_rfl) (by kernel_rfl) (by kernel_rfl) (by kernel_rfl) (Lib.laidMet.reads h (.head _))
theorem qgx (os:Os) (started:os.Started) (H:Type) (enc:TypeId×Value→H) :
  ReturnsInHanded {} Tryz.checked os 9 .any (fun w args=>(Rows.learnLateSpec.pre enc Tryz.prog Tryz.f9 [] false w args∧laidMetH Tryz.prog qhI w)∧sizedMet enc Tryz.prog Tryz.f9 (OpenSpec.ofChange Rows.learnLateSpec) false w args) (Rows.learnLateSpec.post enc Tryz.prog Tryz.f9 Rows.learnLateRow.apart Rows.learnLateRow.fresh Rows.learnLateRow.handsOn Rows.learnLateRow.again):=by
 refine returnsInHanded_of_change_and (C:=Tryz.checked) (X:=fun w _=>laidMetH Tryz.prog qhI w) (fun _ _ _ hh h=>h.of_heap hh) (by kernel_rfl) started (by kernel_rfl) Tryz.func9
  (ChangeSpec.witness_shaped (enc:=enc) (C:=Tryz.checked) (os:=os) (X:=fun w _=>laidMetH Tryz.prog qhI w) false (World.doorLaid Tryz.prog 29 os) #[.agg #[.string ⟨#[]⟩,.int .u64 0,.int .i64 0,.int .i64 0,.int .i64 0,.string ⟨#[]⟩,.int .i64 0,.string ⟨#[]⟩,.int .i64 0,.string ⟨#[]⟩,.bool false,.slice none 0 0,.slice none 0 0,.slice none 0 0,.slice none 0 0,.slice none 0 0,.slice none 0 0,.slice none 0 0,.int .i64 0,.int .i64 0,.slice none 0 0,.slice none 0 0],.agg #[.int .i64 0,.int .i64 0,.int .i64 0,.int .i64 0,.int .i64 0,.int .u64 0,.string ⟨#[]⟩,.int .u64 0,.int .i64 0,.int .i64 0,.int .i64 0,.string ⟨#[]⟩,.int .i64 0,.int .i64 0,.int .i64 0,.int .i64 0,.int .u64 0,.bool false,.bool false,.string ⟨#[]⟩,.string ⟨#[]⟩,.slice none 0 0,.slice none 0 0],.slice none 0 0] 8 rfl (World.shaped_of_RefB (by kernel_rfl) (by kernel_rfl)) (by kernel_rfl) (by kernel_rfl) (by kernel_rfl) (qjL os _)) ?_
 intro W base args ds gs before hval hW _ _ hL _
 refine qff (C:=C5) (m:=8) qa4 qt9 (by kernel_rfl) rfl (fun ds hd=>?_) qjM W (qDr hL) base args ds gs before hval hW
 match ds,hd with
 | [_,_,_],_=>rfl
theorem qgy:joinedFacts Tryz.pinned.checked.prog 9 Tryz.f9 Rows.learnLateSpec Rows.learnLateRow=true:=by
 unfold joinedFacts
 simp only [Bool.and_eq_true]
 and_intros
 all_goals as_aux_lemma=>kernel_rfl
theorem learnLate_holds:Rows.LearnLateSaid:=
 OpenClaim.holds_of_wide 9 Tryz.f9 rfl rfl rfl rfl rfl rfl rfl ⟨rfl,rfl,rfl,rfl,rfl⟩ rfl rfl rfl rfl rfl (by as_aux_lemma=>kernel_rfl) Tryz.func9 qgy
  (of_decide_eq_true (by as_aux_lemma=>kernel_rfl)) (by unfold Func.isWrapper;rw [if_neg (by decide +kernel)];exact ⟨rfl,rfl⟩)
  (fun os started H enc _=>qgx os started H enc)
end Go.Proofs.YtnpkhdjgedeppaaGreatDoor
