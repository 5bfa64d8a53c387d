import Derived.Test.YtccfjidpdlfenaaDoorTRange
import Derived.Test.YtccfjidpdlfenaaDoorBr4
import Derived.Test.YtccfjidpdlfenaaDoorRows
import Derived.LaidMore
import Derived.OpenShut
import Derived.Stop.Joined
import Derived.MakeChecks
namespace Go.Proofs.YtccfjidpdlfenaaDoor
open Go.Am
open Go.ChangeShapes Go.WideShapes Go.ChangeAt Go.RowKit
set_option linter.unusedSimpArgs false
set_option linter.unusedVariables false
set_option maxRecDepth 100000

theorem bytes_of {es : List (List AVal)} (h : ∀ r ∈ es, Shs [.i .u8] r) : ∃ l : List UInt8, es = l.map byteRow := by
  obtain ⟨l, h1, _⟩ := rows_map byteRow (fun _ => True) (fun r hr => by
    have := h r hr
    simp only [Shs, Sh] at this
    obtain ⟨_, _, rfl, ⟨z, rfl, hz⟩, rfl⟩ := this
    have hz := wf_u8 hz
    exact ⟨UInt8.ofNat z.toNat, by simp [byteRow]; omega, trivial⟩)
  exact ⟨l, h1⟩

theorem items_of {es : List (List AVal)} (h : ∀ r ∈ es, Shs [.s, .s, .i .i64, .b] r) : ∃ l : List It, es = l.map It.cs ∧ ∀ x ∈ l, x.k.length ≤ 9223372036854775807 ∧ x.v.length ≤ 9223372036854775807 := by
  refine rows_map It.cs _ fun r hr => ?_
  have := h r hr
  simp only [Shs, Sh] at this
  obtain ⟨_, _, rfl, ⟨k, rfl, hk⟩, _, _, rfl, ⟨v, rfl, hv⟩, _, _, rfl, ⟨n, rfl, hn⟩, _, _, rfl, ⟨g, rfl⟩, rfl⟩ := this
  exact ⟨⟨k, v, n, g⟩, rfl, hk, hv⟩

theorem storeMerges_law (ds : List AVal) (h : TAs C.E.P Tryd.f3.params.toList ds) : fn C 3 [] ds = some (.bool true, []) := by
  have h := TAs_sh h (show argShT C.E.P 6 Tryd.f3.params.toList = some [(false, [.sl 4 [.s, .s, .i .i64, .b]]), (false, [.sl 4 [.s, .s, .i .i64, .b]]), (false, [.i .u64]), (false, [.i .u64])] by kernel_rfl)
  simp only [ArgSh_one, ArgSh_agg, ArgSh_nil, Sh, Shs] at h
  obtain ⟨_, _, rfl, ⟨es, rfl, hl, hr⟩, _, _, rfl, ⟨es2, rfl, hl2, hr2⟩, _, _, rfl, ⟨a, rfl, ha⟩, _, _, rfl, ⟨b, rfl, hb⟩, rfl⟩ := h
  obtain ⟨l, rfl, hx⟩ := items_of hr
  obtain ⟨m, rfl, hx2⟩ := items_of hr2
  have ha := wf_u64 ha
  have hb := wf_u64 hb
  obtain ⟨a, rfl⟩ := Int.eq_ofNat_of_zero_le ha.1
  obtain ⟨b, rfl⟩ := Int.eq_ofNat_of_zero_le hb.1
  exact e3 l m a b (by omega) (by omega) (by simpa using hl) hx (by simpa using hl2) hx2

abbrev laidT : List (String × DataW Unit) := [("carcanet/digest.constants", Rows.laid_carcanet_digest_constants)]
theorem door_met (os : Os) (args : Array Value) : laidMetH Tryd.prog laidT ((World.doorLaid Tryd.prog 29 os).forCall (fun _ _ => 0) ⟨#[], args, []⟩).memory :=
  laidMetH_of_parts3 (fuel := 8) (laidMet_of_run' 8 (by kernel_rfl) (by kernel_rfl)) (by kernel_rfl) (by kernel_rfl)
theorem globT {W : World} (h : laidMetH Tryd.prog laidT W) : GlobOk C.E.Γ (fun b => b < W.heap.size) W := by
  rw [MakeChecks.laidMetH_plain _ _ _ (by kernel_rfl)] at h
  refine globOk_tabs (P := Tryd.prog) (ts := tabs) ?_ ?_
  · intro t ht
    simp only [tabs, List.mem_cons, List.not_mem_nil, or_false] at ht
    rcases ht with rfl <;> kernel_rfl
  · intro t ht
    simp only [tabs, List.mem_cons, List.not_mem_nil, or_false] at ht
    rcases ht with rfl
    · exact tabIs_of_reads (g := 0) (t := 159) (e := 116) (n := 64) (by kernel_rfl) (by kernel_rfl) (by kernel_rfl) (by kernel_rfl) (by kernel_rfl) (by kernel_rfl) (Lib.laidMet.reads h (.head _))

theorem storeMerges_lifted (os : Os) (started : os.Started) (H : Type) (enc : TypeId × Value → H) :
    ReturnsInHanded {} Tryd.checked os 3 .any (fun w args => (Rows.storeMergesSpec.pre enc Tryd.prog Tryd.f3 [] false w args ∧ laidMetH Tryd.prog laidT w) ∧ sizedMet enc Tryd.prog Tryd.f3 (OpenSpec.ofChange Rows.storeMergesSpec) false w args) (Rows.storeMergesSpec.post enc Tryd.prog Tryd.f3 Rows.storeMergesRow.apart Rows.storeMergesRow.fresh Rows.storeMergesRow.handsOn Rows.storeMergesRow.again) := by
  refine returnsInHanded_of_change_and (C := Tryd.checked) (X := fun w _ => laidMetH Tryd.prog laidT w) (fun _ _ _ hh h => h.of_heap hh) (by kernel_rfl) started (by kernel_rfl) Tryd.func3
    (ChangeSpec.witness_shaped (enc := enc) (C := Tryd.checked) (os := os) (X := fun w _ => laidMetH Tryd.prog laidT w) false (World.doorLaid Tryd.prog 29 os) #[.slice none 0 0, .slice none 0 0, .int .u64 0, .int .u64 0] 8 rfl (World.shaped_of_RefB (by kernel_rfl) (by kernel_rfl)) (by kernel_rfl) (by kernel_rfl) (by kernel_rfl) (door_met os _)) ?_
  intro W base args ds gs before hval hW _ _ hL _
  refine law_contractG (C := C) (m := 6) mixed own_ok (by kernel_rfl) rfl (fun ds hd => ?_) storeMerges_law W (globT hL) base args ds gs before hval hW
  match ds, hd with
  | [_, _, _, _], _ => rfl
theorem storeMerges_holds : Rows.StoreMergesSaid :=
  OpenClaim.holds_of_wide 3 Tryd.f3 rfl rfl rfl rfl rfl rfl rfl ⟨rfl, rfl, rfl, rfl, rfl⟩ rfl rfl rfl rfl rfl (by kernel_rfl) Tryd.func3 (by kernel_rfl)
    (of_decide_eq_true (by kernel_rfl)) (by unfold Func.isWrapper; rw [if_neg (by decide +kernel)]; exact ⟨rfl, rfl⟩)
    (fun os started H enc _ => storeMerges_lifted os started H enc)

end Go.Proofs.YtccfjidpdlfenaaDoor
