/-
  NARROWER THAN 'FOR EVERY INPUT', by the rows' own cells (each row's printed sentence says how): ClientBegins: laid · ClientGoes: laid · ServeAnswers: laid · ServeKnows: laid · LearnAnswers: laid · LearnSelf: laid · LearnLate: laid.
  DERIVED. THE GIVEN ROWS OF THIS SEAT. 7 by the template 'for every input the law returns true; each argument reads behind the call as it read before'; 0 by the template 'total and deterministic' (their statements: YtnpkhdjgedeppaaGreatDoorTotals.lean).
  GIVEN WITH THE SEED: the statements are not yours to turn. If you find one false, say at which input.
  Laid BY PROGRAM, IN A SANDBOX (cutbox-rows.mjs): the forced cells as the released guide's own fill.sh prints them over the translation 0cec53f334df5c83… (all of the seat's roots in one cut). By AI agents, Wed Nov 11 2026. No macro, syntax, notation, axiom, sorry.
-/
import Derived.Test.YtnpkhdjgedeppaaGreatDoorChecked
import GoSem.Claim
import GoSem.ClaimJoined
import GoSem.ClaimMapViews
import Derived.JoinedTies
import Derived.KernelRfl
namespace Go.Proofs.YtnpkhdjgedeppaaGreatDoor
/- THE CELL 'sum', in the pinned program and in every row, IS THE sha256 OF THE DUMP (.gsa) THAT YtnpkhdjgedeppaaGreatDoorProg.lean LOADS. Nothing in Lean hashes anything: it is a label: what it is worth is what the hold of that sum in a sandbox is worth. -/
noncomputable def Tryz.pinned : Pinned := { name := "ytnpkhdjgedeppaagreatdoor", sum := "0cec53f334df5c83f4221b8cb1f60df7c306bcaae69d8ead1e3144a22754051a", checked := Tryz.checked }
namespace Rows
def none {H : Type} : Left H := { results := [], args := [] }

/- WHAT THE LISTED PACKAGE-LEVEL VARIABLES READ AS WHEN THE CALL BEGINS. Each datum BY PROGRAM (the guide's laid-datum.mjs) off the statement by which the dump's own 'gosem.cut.vars' lays the variable. In a bare row this is a premise. The card (YtnpkhdjgedeppaaGreatDoorCards.lean) ties it to the program's text. -/
def laid_carcanet_digest_constants {H : Type} : DataW H := .agg [.lit (.int .u32 1116352408), .lit (.int .u32 1899447441), .lit (.int .u32 3049323471), .lit (.int .u32 3921009573), .lit (.int .u32 961987163), .lit (.int .u32 1508970993), .lit (.int .u32 2453635748), .lit (.int .u32 2870763221), .lit (.int .u32 3624381080), .lit (.int .u32 310598401), .lit (.int .u32 607225278), .lit (.int .u32 1426881987), .lit (.int .u32 1925078388), .lit (.int .u32 2162078206), .lit (.int .u32 2614888103), .lit (.int .u32 3248222580), .lit (.int .u32 3835390401), .lit (.int .u32 4022224774), .lit (.int .u32 264347078), .lit (.int .u32 604807628), .lit (.int .u32 770255983), .lit (.int .u32 1249150122), .lit (.int .u32 1555081692), .lit (.int .u32 1996064986), .lit (.int .u32 2554220882), .lit (.int .u32 2821834349), .lit (.int .u32 2952996808), .lit (.int .u32 3210313671), .lit (.int .u32 3336571891), .lit (.int .u32 3584528711), .lit (.int .u32 113926993), .lit (.int .u32 338241895), .lit (.int .u32 666307205), .lit (.int .u32 773529912), .lit (.int .u32 1294757372), .lit (.int .u32 1396182291), .lit (.int .u32 1695183700), .lit (.int .u32 1986661051), .lit (.int .u32 2177026350), .lit (.int .u32 2456956037), .lit (.int .u32 2730485921), .lit (.int .u32 2820302411), .lit (.int .u32 3259730800), .lit (.int .u32 3345764771), .lit (.int .u32 3516065817), .lit (.int .u32 3600352804), .lit (.int .u32 4094571909), .lit (.int .u32 275423344), .lit (.int .u32 430227734), .lit (.int .u32 506948616), .lit (.int .u32 659060556), .lit (.int .u32 883997877), .lit (.int .u32 958139571), .lit (.int .u32 1322822218), .lit (.int .u32 1537002063), .lit (.int .u32 1747873779), .lit (.int .u32 1955562222), .lit (.int .u32 2024104815), .lit (.int .u32 2227730452), .lit (.int .u32 2361852424), .lit (.int .u32 2428436474), .lit (.int .u32 2756734187), .lit (.int .u32 3204031479), .lit (.int .u32 3329325298)]

/-- 'carcanetlaw31.ClientBegins': WHATEVER THE INPUT: true; the input reads as it did. -/
def clientBeginsSpec : ChangeSpec := { name := "clientBegins", fn := fun _ => fun
  | [d1, d2, d3, d4, d5] => { results := [.lit (.bool true)], args := [d1, d2, d3, d4, d5] }
  | _ => none }
def clientBeginsRow : OpenClaim := { program := "ytnpkhdjgedeppaagreatdoor", sum := "0cec53f334df5c83f4221b8cb1f60df7c306bcaae69d8ead1e3144a22754051a", func := "carcanet/carcanetlaw31.ClientBegins", spec := "clientBegins", inPlace := ["slices.overlaps[carcanet/api.Item]"], unfollowed := true, recurses := true, named := ["carcanet/digest.constants"], apart := false, laid := [("carcanet/digest.constants", laid_carcanet_digest_constants)] }
def ClientBeginsSaid : Prop := clientBeginsRow.holds Tryz.pinned (OpenSpec.ofChange clientBeginsSpec)

/-- ITS FALSE NEIGHBOUR: 'it returns false'. Refute it at one input. -/
def clientBeginsWrong : ChangeSpec := { name := "clientBegins", fn := fun _ => fun
  | [d1, d2, d3, d4, d5] => { results := [.lit (.bool false)], args := [d1, d2, d3, d4, d5] }
  | _ => none }
def ClientBeginsWrongFalsely : Prop := clientBeginsRow.holds Tryz.pinned (OpenSpec.ofChange clientBeginsWrong)

/-- 'carcanetlaw31.ClientGoes': WHATEVER THE INPUT: true; the input reads as it did. -/
def clientGoesSpec : ChangeSpec := { name := "clientGoes", fn := fun _ => fun
  | [d1, d2, d3, d4, d5] => { results := [.lit (.bool true)], args := [d1, d2, d3, d4, d5] }
  | _ => none }
def clientGoesRow : OpenClaim := { program := "ytnpkhdjgedeppaagreatdoor", sum := "0cec53f334df5c83f4221b8cb1f60df7c306bcaae69d8ead1e3144a22754051a", func := "carcanet/carcanetlaw31.ClientGoes", spec := "clientGoes", inPlace := ["slices.overlaps[carcanet/api.Item]"], unfollowed := true, recurses := true, named := ["carcanet/digest.constants"], apart := false, laid := [("carcanet/digest.constants", laid_carcanet_digest_constants)] }
def ClientGoesSaid : Prop := clientGoesRow.holds Tryz.pinned (OpenSpec.ofChange clientGoesSpec)

/-- ITS FALSE NEIGHBOUR: 'it returns false'. Refute it at one input. -/
def clientGoesWrong : ChangeSpec := { name := "clientGoes", fn := fun _ => fun
  | [d1, d2, d3, d4, d5] => { results := [.lit (.bool false)], args := [d1, d2, d3, d4, d5] }
  | _ => none }
def ClientGoesWrongFalsely : Prop := clientGoesRow.holds Tryz.pinned (OpenSpec.ofChange clientGoesWrong)

/-- 'carcanetlaw30.ServeAnswers': WHATEVER THE INPUT: true; the input reads as it did. -/
def serveAnswersSpec : ChangeSpec := { name := "serveAnswers", fn := fun _ => fun
  | [d1, d2, d3] => { results := [.lit (.bool true)], args := [d1, d2, d3] }
  | _ => none }
def serveAnswersRow : OpenClaim := { program := "ytnpkhdjgedeppaagreatdoor", sum := "0cec53f334df5c83f4221b8cb1f60df7c306bcaae69d8ead1e3144a22754051a", func := "carcanet/carcanetlaw30.ServeAnswers", spec := "serveAnswers", inPlace := ["slices.overlaps[carcanet/api.Peer]", "slices.overlaps[carcanet/api.Item]"], unfollowed := true, recurses := true, named := ["carcanet/digest.constants"], apart := false, laid := [("carcanet/digest.constants", laid_carcanet_digest_constants)] }
def ServeAnswersSaid : Prop := serveAnswersRow.holds Tryz.pinned (OpenSpec.ofChange serveAnswersSpec)

/-- ITS FALSE NEIGHBOUR: 'it returns false'. Refute it at one input. -/
def serveAnswersWrong : ChangeSpec := { name := "serveAnswers", fn := fun _ => fun
  | [d1, d2, d3] => { results := [.lit (.bool false)], args := [d1, d2, d3] }
  | _ => none }
def ServeAnswersWrongFalsely : Prop := serveAnswersRow.holds Tryz.pinned (OpenSpec.ofChange serveAnswersWrong)

/-- 'carcanetlaw30.ServeKnows': WHATEVER THE INPUT: true; the input reads as it did. -/
def serveKnowsSpec : ChangeSpec := { name := "serveKnows", fn := fun _ => fun
  | [d1, d2, d3, d4] => { results := [.lit (.bool true)], args := [d1, d2, d3, d4] }
  | _ => none }
def serveKnowsRow : OpenClaim := { program := "ytnpkhdjgedeppaagreatdoor", sum := "0cec53f334df5c83f4221b8cb1f60df7c306bcaae69d8ead1e3144a22754051a", func := "carcanet/carcanetlaw30.ServeKnows", spec := "serveKnows", inPlace := ["slices.overlaps[carcanet/api.Peer]", "slices.overlaps[carcanet/api.Item]"], unfollowed := true, recurses := true, named := ["carcanet/digest.constants"], apart := false, laid := [("carcanet/digest.constants", laid_carcanet_digest_constants)] }
def ServeKnowsSaid : Prop := serveKnowsRow.holds Tryz.pinned (OpenSpec.ofChange serveKnowsSpec)

/-- ITS FALSE NEIGHBOUR: 'it returns false'. Refute it at one input. -/
def serveKnowsWrong : ChangeSpec := { name := "serveKnows", fn := fun _ => fun
  | [d1, d2, d3, d4] => { results := [.lit (.bool false)], args := [d1, d2, d3, d4] }
  | _ => none }
def ServeKnowsWrongFalsely : Prop := serveKnowsRow.holds Tryz.pinned (OpenSpec.ofChange serveKnowsWrong)

/-- 'carcanetlaw32.LearnAnswers': WHATEVER THE INPUT: true; the input reads as it did. -/
def learnAnswersSpec : ChangeSpec := { name := "learnAnswers", fn := fun _ => fun
  | [d1, d2, d3, d4] => { results := [.lit (.bool true)], args := [d1, d2, d3, d4] }
  | _ => none }
def learnAnswersRow : OpenClaim := { program := "ytnpkhdjgedeppaagreatdoor", sum := "0cec53f334df5c83f4221b8cb1f60df7c306bcaae69d8ead1e3144a22754051a", func := "carcanet/carcanetlaw32.LearnAnswers", spec := "learnAnswers", inPlace := ["slices.overlaps[carcanet/api.Peer]", "slices.overlaps[carcanet/api.Item]"], unfollowed := true, recurses := true, named := ["carcanet/digest.constants"], apart := false, laid := [("carcanet/digest.constants", laid_carcanet_digest_constants)] }
def LearnAnswersSaid : Prop := learnAnswersRow.holds Tryz.pinned (OpenSpec.ofChange learnAnswersSpec)

/-- ITS FALSE NEIGHBOUR: 'it returns false'. Refute it at one input. -/
def learnAnswersWrong : ChangeSpec := { name := "learnAnswers", fn := fun _ => fun
  | [d1, d2, d3, d4] => { results := [.lit (.bool false)], args := [d1, d2, d3, d4] }
  | _ => none }
def LearnAnswersWrongFalsely : Prop := learnAnswersRow.holds Tryz.pinned (OpenSpec.ofChange learnAnswersWrong)

/-- 'carcanetlaw32.LearnSelf': WHATEVER THE INPUT: true; the input reads as it did. -/
def learnSelfSpec : ChangeSpec := { name := "learnSelf", fn := fun _ => fun
  | [d1, d2, d3, d4] => { results := [.lit (.bool true)], args := [d1, d2, d3, d4] }
  | _ => none }
def learnSelfRow : OpenClaim := { program := "ytnpkhdjgedeppaagreatdoor", sum := "0cec53f334df5c83f4221b8cb1f60df7c306bcaae69d8ead1e3144a22754051a", func := "carcanet/carcanetlaw32.LearnSelf", spec := "learnSelf", inPlace := ["slices.overlaps[carcanet/api.Peer]", "slices.overlaps[carcanet/api.Item]"], unfollowed := true, recurses := true, named := ["carcanet/digest.constants"], apart := false, laid := [("carcanet/digest.constants", laid_carcanet_digest_constants)] }
def LearnSelfSaid : Prop := learnSelfRow.holds Tryz.pinned (OpenSpec.ofChange learnSelfSpec)

/-- ITS FALSE NEIGHBOUR: 'it returns false'. Refute it at one input. -/
def learnSelfWrong : ChangeSpec := { name := "learnSelf", fn := fun _ => fun
  | [d1, d2, d3, d4] => { results := [.lit (.bool false)], args := [d1, d2, d3, d4] }
  | _ => none }
def LearnSelfWrongFalsely : Prop := learnSelfRow.holds Tryz.pinned (OpenSpec.ofChange learnSelfWrong)

/-- 'carcanetlaw32.LearnLate': WHATEVER THE INPUT: true; the input reads as it did. -/
def learnLateSpec : ChangeSpec := { name := "learnLate", fn := fun _ => fun
  | [d1, d2, d3] => { results := [.lit (.bool true)], args := [d1, d2, d3] }
  | _ => none }
def learnLateRow : OpenClaim := { program := "ytnpkhdjgedeppaagreatdoor", sum := "0cec53f334df5c83f4221b8cb1f60df7c306bcaae69d8ead1e3144a22754051a", func := "carcanet/carcanetlaw32.LearnLate", spec := "learnLate", inPlace := ["slices.overlaps[carcanet/api.Peer]", "slices.overlaps[carcanet/api.Item]"], unfollowed := true, recurses := true, named := ["carcanet/digest.constants"], apart := false, laid := [("carcanet/digest.constants", laid_carcanet_digest_constants)] }
def LearnLateSaid : Prop := learnLateRow.holds Tryz.pinned (OpenSpec.ofChange learnLateSpec)

/-- ITS FALSE NEIGHBOUR: 'it returns false'. Refute it at one input. -/
def learnLateWrong : ChangeSpec := { name := "learnLate", fn := fun _ => fun
  | [d1, d2, d3] => { results := [.lit (.bool false)], args := [d1, d2, d3] }
  | _ => none }
def LearnLateWrongFalsely : Prop := learnLateRow.holds Tryz.pinned (OpenSpec.ofChange learnLateWrong)

/- THE SECOND FORM. 'bulk': how many values and letters a reading holds, each counted each time it is reached (what is shared counts as often as it is met; a slice's spare places count too). A statement '..UptoSaid' is the law's where the arguments, and the package variables that the reading takes, are together of bulk at most 1048576: NARROWER than '..Said'. Prove '..Said' where nothing that the law and all that it calls make is longer than what came in: it says more and counts as full. Else prove '..UptoSaid'. A law counts once. -/
mutual
def uptoBulk {H : Type} : DataW H → Nat
  | .lit (.string bytes) => bytes.length + 1
  | .lit _ => 1
  | .nil => 1
  | .ptr d => uptoBulk d + 1
  | .slice elems spare => uptoBulkAll elems + uptoBulkAll spare + 1
  | .agg parts => uptoBulkAll parts + 1
  | .iface _ d => uptoBulk d + 1
  | .map entries => uptoBulkEntries entries + 1
  | .held _ => 1
def uptoBulkAll {H : Type} : List (DataW H) → Nat
  | [] => 0
  | d :: r => uptoBulk d + uptoBulkAll r
def uptoBulkEntries {H : Type} : List (Lit × DataW H) → Nat
  | [] => 0
  | x :: r => uptoBulkEntry x + uptoBulkEntries r
def uptoBulkEntry {H : Type} : Lit × DataW H → Nat
  | (.string bytes, d) => bytes.length + uptoBulk d + 1
  | (_, d) => uptoBulk d + 1
 end
def uptoSmall : (H : Type) → List (DataW H) → Bool := fun _ ds => decide (uptoBulkAll ds ≤ 1048576)
def OpenSpec.upto (s : _root_.Go.ChangeSpec) : _root_.Go.OpenSpec := { _root_.Go.OpenSpec.ofChange s with cond := some uptoSmall }

/-- 'carcanetlaw31.ClientBegins', WHERE WHAT IT READS IS OF BULK AT MOST 1048576: true; the input reads as it did. -/
def clientBeginsUptoRow : OpenClaim := { program := "ytnpkhdjgedeppaagreatdoor", sum := "0cec53f334df5c83f4221b8cb1f60df7c306bcaae69d8ead1e3144a22754051a", func := "carcanet/carcanetlaw31.ClientBegins", spec := "clientBegins", inPlace := ["slices.overlaps[carcanet/api.Item]"], unfollowed := true, recurses := true, named := ["carcanet/digest.constants"], apart := false, laid := [("carcanet/digest.constants", laid_carcanet_digest_constants)], narrowed := true }
def ClientBeginsUptoSaid : Prop := clientBeginsUptoRow.holds Tryz.pinned (OpenSpec.upto clientBeginsSpec)

/-- 'carcanetlaw31.ClientGoes', WHERE WHAT IT READS IS OF BULK AT MOST 1048576: true; the input reads as it did. -/
def clientGoesUptoRow : OpenClaim := { program := "ytnpkhdjgedeppaagreatdoor", sum := "0cec53f334df5c83f4221b8cb1f60df7c306bcaae69d8ead1e3144a22754051a", func := "carcanet/carcanetlaw31.ClientGoes", spec := "clientGoes", inPlace := ["slices.overlaps[carcanet/api.Item]"], unfollowed := true, recurses := true, named := ["carcanet/digest.constants"], apart := false, laid := [("carcanet/digest.constants", laid_carcanet_digest_constants)], narrowed := true }
def ClientGoesUptoSaid : Prop := clientGoesUptoRow.holds Tryz.pinned (OpenSpec.upto clientGoesSpec)

/-- 'carcanetlaw30.ServeAnswers', WHERE WHAT IT READS IS OF BULK AT MOST 1048576: true; the input reads as it did. -/
def serveAnswersUptoRow : OpenClaim := { program := "ytnpkhdjgedeppaagreatdoor", sum := "0cec53f334df5c83f4221b8cb1f60df7c306bcaae69d8ead1e3144a22754051a", func := "carcanet/carcanetlaw30.ServeAnswers", spec := "serveAnswers", inPlace := ["slices.overlaps[carcanet/api.Peer]", "slices.overlaps[carcanet/api.Item]"], unfollowed := true, recurses := true, named := ["carcanet/digest.constants"], apart := false, laid := [("carcanet/digest.constants", laid_carcanet_digest_constants)], narrowed := true }
def ServeAnswersUptoSaid : Prop := serveAnswersUptoRow.holds Tryz.pinned (OpenSpec.upto serveAnswersSpec)

/-- 'carcanetlaw30.ServeKnows', WHERE WHAT IT READS IS OF BULK AT MOST 1048576: true; the input reads as it did. -/
def serveKnowsUptoRow : OpenClaim := { program := "ytnpkhdjgedeppaagreatdoor", sum := "0cec53f334df5c83f4221b8cb1f60df7c306bcaae69d8ead1e3144a22754051a", func := "carcanet/carcanetlaw30.ServeKnows", spec := "serveKnows", inPlace := ["slices.overlaps[carcanet/api.Peer]", "slices.overlaps[carcanet/api.Item]"], unfollowed := true, recurses := true, named := ["carcanet/digest.constants"], apart := false, laid := [("carcanet/digest.constants", laid_carcanet_digest_constants)], narrowed := true }
def ServeKnowsUptoSaid : Prop := serveKnowsUptoRow.holds Tryz.pinned (OpenSpec.upto serveKnowsSpec)

/-- 'carcanetlaw32.LearnAnswers', WHERE WHAT IT READS IS OF BULK AT MOST 1048576: true; the input reads as it did. -/
def learnAnswersUptoRow : OpenClaim := { program := "ytnpkhdjgedeppaagreatdoor", sum := "0cec53f334df5c83f4221b8cb1f60df7c306bcaae69d8ead1e3144a22754051a", func := "carcanet/carcanetlaw32.LearnAnswers", spec := "learnAnswers", inPlace := ["slices.overlaps[carcanet/api.Peer]", "slices.overlaps[carcanet/api.Item]"], unfollowed := true, recurses := true, named := ["carcanet/digest.constants"], apart := false, laid := [("carcanet/digest.constants", laid_carcanet_digest_constants)], narrowed := true }
def LearnAnswersUptoSaid : Prop := learnAnswersUptoRow.holds Tryz.pinned (OpenSpec.upto learnAnswersSpec)

/-- 'carcanetlaw32.LearnSelf', WHERE WHAT IT READS IS OF BULK AT MOST 1048576: true; the input reads as it did. -/
def learnSelfUptoRow : OpenClaim := { program := "ytnpkhdjgedeppaagreatdoor", sum := "0cec53f334df5c83f4221b8cb1f60df7c306bcaae69d8ead1e3144a22754051a", func := "carcanet/carcanetlaw32.LearnSelf", spec := "learnSelf", inPlace := ["slices.overlaps[carcanet/api.Peer]", "slices.overlaps[carcanet/api.Item]"], unfollowed := true, recurses := true, named := ["carcanet/digest.constants"], apart := false, laid := [("carcanet/digest.constants", laid_carcanet_digest_constants)], narrowed := true }
def LearnSelfUptoSaid : Prop := learnSelfUptoRow.holds Tryz.pinned (OpenSpec.upto learnSelfSpec)

/-- 'carcanetlaw32.LearnLate', WHERE WHAT IT READS IS OF BULK AT MOST 1048576: true; the input reads as it did. -/
def learnLateUptoRow : OpenClaim := { program := "ytnpkhdjgedeppaagreatdoor", sum := "0cec53f334df5c83f4221b8cb1f60df7c306bcaae69d8ead1e3144a22754051a", func := "carcanet/carcanetlaw32.LearnLate", spec := "learnLate", inPlace := ["slices.overlaps[carcanet/api.Peer]", "slices.overlaps[carcanet/api.Item]"], unfollowed := true, recurses := true, named := ["carcanet/digest.constants"], apart := false, laid := [("carcanet/digest.constants", laid_carcanet_digest_constants)], narrowed := true }
def LearnLateUptoSaid : Prop := learnLateUptoRow.holds Tryz.pinned (OpenSpec.upto learnLateSpec)

end Rows
end Go.Proofs.YtnpkhdjgedeppaaGreatDoor
