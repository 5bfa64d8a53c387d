import Derived.Test.YtccfjidpdlfenaaDoorTPoly3
import Derived.Test.YtccfjidpdlfenaaDoorBr4
import Derived.Test.YtccfjidpdlfenaaDoorRows
import Derived.LaidMore
import Derived.OpenShut
import Derived.Stop.Joined
import Derived.MakeChecks
namespace Go.Proofs.YtccfjidpdlfenaaDoor
open Go.Am
open Go.ChangeShapes Go.WideShapes Go.ChangeAt Go.RowKit
set_option linter.unusedSimpArgs false
set_option linter.unusedVariables false
set_option maxRecDepth 100000

theorem bytes_of {es : List (List AVal)} (h : ∀ r ∈ es, Shs [.i .u8] r) : ∃ l : List UInt8, es = l.map byteRow := by
  obtain ⟨l, h1, _⟩ := rows_map byteRow (fun _ => True) (fun r hr => by
    have := h r hr
    simp only [Shs, Sh] at this
    obtain ⟨_, _, rfl, ⟨z, rfl, hz⟩, rfl⟩ := this
    have hz := wf_u8 hz
    exact ⟨UInt8.ofNat z.toNat, by simp [byteRow]; omega, trivial⟩)
  exact ⟨l, h1⟩
theorem byte_of {z : Int} (h : (Lit.int .u8 z).wf = true) : ∃ x : UInt8, z = (x.toNat : Int) := by
  have hz := wf_u8 h
  exact ⟨UInt8.ofNat z.toNat, by simp; omega⟩

theorem items_of {es : List (List AVal)} (h : ∀ r ∈ es, Shs [.s, .s, .i .i64, .b] r) : ∃ l : List It, es = l.map It.cs ∧ ∀ x ∈ l, x.k.length ≤ 9223372036854775807 ∧ x.v.length ≤ 9223372036854775807 := by
  refine rows_map It.cs _ fun r hr => ?_
  have := h r hr
  simp only [Shs, Sh] at this
  obtain ⟨_, _, rfl, ⟨k, rfl, hk⟩, _, _, rfl, ⟨v, rfl, hv⟩, _, _, rfl, ⟨n, rfl, hn⟩, _, _, rfl, ⟨g, rfl⟩, rfl⟩ := this
  exact ⟨⟨k, v, n, g⟩, rfl, hk, hv⟩

theorem vaultBack_law (ds : List AVal) (h : TAs C.E.P Tryd.f6.params.toList ds) : fn C 6 [] ds = some (.bool true, []) := by
  have h := TAs_sh h (show argShT C.E.P 6 Tryd.f6.params.toList = some [(false, [.s]), (true, [.s, .i .u64, .sl 4 [.s, .s, .i .i64, .b]]), (false, [.i .u8]), (false, [.i .u8])] by kernel_rfl)
  simp only [ArgSh_one, ArgSh_agg, ArgSh_nil, Sh, Shs] at h
  obtain ⟨_, _, rfl, ⟨key, rfl, hkey⟩, _, _, rfl, ha, _, _, rfl, ⟨x, rfl, hx8⟩, _, _, rfl, ⟨y, rfl, hy8⟩, rfl⟩ := h
  obtain ⟨_, _, rfl, ⟨o, rfl, ho⟩, _, _, rfl, ⟨n, rfl, hn⟩, _, _, rfl, ⟨es, rfl, hl, hr⟩, rfl⟩ := ha
  obtain ⟨l, rfl, hx⟩ := items_of hr
  have hn := wf_u64 hn
  obtain ⟨n, rfl⟩ := Int.eq_ofNat_of_zero_le hn.1
  obtain ⟨x, rfl⟩ := byte_of hx8
  obtain ⟨y, rfl⟩ := byte_of hy8
  exact e6 key ⟨o, n, l⟩ x y hkey ⟨by simp only; omega, ho, by simpa using hl, hx⟩

abbrev laidT : List (String × DataW Unit) := [("carcanet/digest.constants", Rows.laid_carcanet_digest_constants)]
theorem door_met (os : Os) (args : Array Value) : laidMetH Tryd.prog laidT ((World.doorLaid Tryd.prog 29 os).forCall (fun _ _ => 0) ⟨#[], args, []⟩).memory :=
  laidMetH_of_parts3 (fuel := 8) (laidMet_of_run' 8 (by kernel_rfl) (by kernel_rfl)) (by kernel_rfl) (by kernel_rfl)
theorem globT {W : World} (h : laidMetH Tryd.prog laidT W) : GlobOk C.E.Γ (fun b => b < W.heap.size) W := by
  rw [MakeChecks.laidMetH_plain _ _ _ (by kernel_rfl)] at h
  refine globOk_tabs (P := Tryd.prog) (ts := tabs) ?_ ?_
  · intro t ht
    simp only [tabs, List.mem_cons, List.not_mem_nil, or_false] at ht
    rcases ht with rfl <;> kernel_rfl
  · intro t ht
    simp only [tabs, List.mem_cons, List.not_mem_nil, or_false] at ht
    rcases ht with rfl
    · exact tabIs_of_reads (g := 0) (t := 159) (e := 116) (n := 64) (by kernel_rfl) (by kernel_rfl) (by kernel_rfl) (by kernel_rfl) (by kernel_rfl) (by kernel_rfl) (Lib.laidMet.reads h (.head _))

theorem vaultBack_lifted (os : Os) (started : os.Started) (H : Type) (enc : TypeId × Value → H) :
    ReturnsInHanded {} Tryd.checked os 6 .any (fun w args => (Rows.vaultBackSpec.pre enc Tryd.prog Tryd.f6 [] false w args ∧ laidMetH Tryd.prog laidT w) ∧ sizedMet enc Tryd.prog Tryd.f6 (OpenSpec.ofChange Rows.vaultBackSpec) false w args) (Rows.vaultBackSpec.post enc Tryd.prog Tryd.f6 Rows.vaultBackRow.apart Rows.vaultBackRow.fresh Rows.vaultBackRow.handsOn Rows.vaultBackRow.again) := by
  refine returnsInHanded_of_change_and (C := Tryd.checked) (X := fun w _ => laidMetH Tryd.prog laidT w) (fun _ _ _ hh h => h.of_heap hh) (by kernel_rfl) started (by kernel_rfl) Tryd.func6
    (ChangeSpec.witness_shaped (enc := enc) (C := Tryd.checked) (os := os) (X := fun w _ => laidMetH Tryd.prog laidT w) false (World.doorLaid Tryd.prog 29 os) #[.string ⟨#[]⟩, .agg #[.string ⟨#[]⟩, .int .u64 0, .slice none 0 0], .int .u8 0, .int .u8 0] 8 rfl (World.shaped_of_RefB (by kernel_rfl) (by kernel_rfl)) (by kernel_rfl) (by kernel_rfl) (by kernel_rfl) (door_met os _)) ?_
  intro W base args ds gs before hval hW _ _ hL _
  refine law_contractG (C := C) (m := 6) mixed own_ok (by kernel_rfl) rfl (fun ds hd => ?_) vaultBack_law W (globT hL) base args ds gs before hval hW
  match ds, hd with
  | [_, _, _, _], _ => rfl
theorem vaultBack_holds : Rows.VaultBackSaid :=
  OpenClaim.holds_of_wide 6 Tryd.f6 rfl rfl rfl rfl rfl rfl rfl ⟨rfl, rfl, rfl, rfl, rfl⟩ rfl rfl rfl rfl rfl (by kernel_rfl) Tryd.func6 (by kernel_rfl)
    (of_decide_eq_true (by kernel_rfl)) (by unfold Func.isWrapper; rw [if_neg (by decide +kernel)]; exact ⟨rfl, rfl⟩)
    (fun os started H enc _ => vaultBack_lifted os started H enc)

end Go.Proofs.YtccfjidpdlfenaaDoor
