import Derived.Test.YtgbmhicpkbmeaaaDoorTDrift
import Derived.Test.YtgbmhicpkbmeaaaDoorBr4
import Derived.Test.YtgbmhicpkbmeaaaDoorRows
import Derived.LaidMore
import Derived.OpenShut
import Derived.Stop.Joined
import Derived.MakeChecks
namespace Go.Proofs.YtgbmhicpkbmeaaaDoor
open Go.Am
open Go.ChangeShapes Go.WideShapes Go.ChangeAt Go.RowKit
set_option linter.unusedSimpArgs false
set_option linter.unusedVariables false
set_option maxRecDepth 100000

theorem bytes_of {es : List (List AVal)} (h : ∀ r ∈ es, Shs [.i .u8] r) : ∃ l : List UInt8, es = l.map byteRow := by
  obtain ⟨l, h1, _⟩ := rows_map byteRow (fun _ => True) (fun r hr => by
    have := h r hr
    simp only [Shs, Sh] at this
    obtain ⟨_, _, rfl, ⟨z, rfl, hz⟩, rfl⟩ := this
    have hz := wf_u8 hz
    exact ⟨UInt8.ofNat z.toNat, by simp [byteRow]; omega, trivial⟩)
  exact ⟨l, h1⟩
theorem byte_of {z : Int} (h : (Lit.int .u8 z).wf = true) : ∃ x : UInt8, z = (x.toNat : Int) := by
  have hz := wf_u8 h
  exact ⟨UInt8.ofNat z.toNat, by simp; omega⟩

theorem rdCh {xs : List AVal} (h : Shs [.i .i64, .s, .i .i64, .i .i64] xs) : ∃ c : Ch, xs = c.cs ∧ c.ok ∧ c.name.length ≤ 9223372036854775807 := by
  simp only [Shs, Sh] at h
  obtain ⟨_, _, rfl, ⟨w, rfl, hw⟩, _, _, rfl, ⟨n, rfl, hn⟩, _, _, rfl, ⟨f, rfl, hf⟩, _, _, rfl, ⟨t, rfl, ht⟩, rfl⟩ := h
  exact ⟨⟨w, n, f, t⟩, rfl, ⟨wf_i64 hw, wf_i64 hf, wf_i64 ht⟩, hn⟩
theorem shs_ch (xs : List AVal) : (∃ a as', xs = a :: as' ∧ (∃ z, a = .int .i64 z ∧ (Lit.int .i64 z).wf = true) ∧ ∃ b bs', as' = b :: bs' ∧ (∃ l : List UInt8, b = .str l ∧ l.length ≤ 9223372036854775807) ∧ ∃ c cs', bs' = c :: cs' ∧ (∃ z, c = .int .i64 z ∧ (Lit.int .i64 z).wf = true) ∧ ∃ d ds', cs' = d :: ds' ∧ (∃ z, d = .int .i64 z ∧ (Lit.int .i64 z).wf = true) ∧ ds' = []) ↔ Shs [.i .i64, .s, .i .i64, .i .i64] xs := by
  simp only [Shs, Sh]

theorem driftTells_law (ds : List AVal) (h : TAs C.E.P Tryd.f6.params.toList ds) : fn C 6 [] ds = some (.bool true, []) := by
  have h := TAs_sh h (show argShT C.E.P 8 Tryd.f6.params.toList = some [(true, shNd), (true, shNd)] by kernel_rfl)
  simp only [ArgSh_one, ArgSh_agg, ArgSh_nil, Sh, Shs] at h
  obtain ⟨_, _, rfl, ha, _, _, rfl, hb, rfl⟩ := h
  obtain ⟨a, rfl, oka, fita⟩ := rdNd ha
  obtain ⟨b, rfl, okb, fitb⟩ := rdNd hb
  exact e6 a b fita fitb
theorem driftNone_law (ds : List AVal) (h : TAs C.E.P Tryd.f8.params.toList ds) : fn C 8 [] ds = some (.bool true, []) := by
  have h := TAs_sh h (show argShT C.E.P 8 Tryd.f8.params.toList = some [(true, shNd), (true, shNd)] by kernel_rfl)
  simp only [ArgSh_one, ArgSh_agg, ArgSh_nil, Sh, Shs] at h
  obtain ⟨_, _, rfl, ha, _, _, rfl, hb, rfl⟩ := h
  obtain ⟨a, rfl, oka, fita⟩ := rdNd ha
  obtain ⟨b, rfl, okb, fitb⟩ := rdNd hb
  exact e8 a b fita fitb oka okb
theorem driftTurns_law (ds : List AVal) (h : TAs C.E.P Tryd.f7.params.toList ds) : fn C 7 [] ds = some (.bool true, []) := by
  have h := TAs_sh h (show argShT C.E.P 8 Tryd.f7.params.toList = some [(false, [.sl 4 [.i .i64, .s, .i .i64, .i .i64]]), (true, [.i .i64, .s, .i .i64, .i .i64])] by kernel_rfl)
  simp only [ArgSh_one, ArgSh_agg, ArgSh_nil, Sh, Shs] at h
  obtain ⟨_, _, rfl, ⟨es, rfl, hl, hr⟩, _, _, rfl, hc, rfl⟩ := h
  obtain ⟨l, rfl, hq⟩ := rows_map Ch.cs (fun x => x.ok ∧ x.name.length ≤ 9223372036854775807) (fun r hm => rdCh (hr r hm))
  obtain ⟨c, rfl, okc, hn⟩ := rdCh ((shs_ch _).1 hc)
  rw [List.length_map] at hl
  exact e7 l c hl okc hn (fun x hx => (hq x hx).2)

abbrev laidT : List (String × DataW Unit) := [("math/bits.deBruijn32tab", Rows.laid_math_bits_deBruijn32tab), ("math/bits.deBruijn64tab", Rows.laid_math_bits_deBruijn64tab), ("internal/strconv.uint64pow10", Rows.laid_internal_strconv_uint64pow10)]
theorem door_met (os : Os) (args : Array Value) : laidMetH Tryd.prog laidT ((World.doorLaid Tryd.prog 29 os).forCall (fun _ _ => 0) ⟨#[], args, []⟩).memory :=
  laidMetH_of_parts3 (fuel := 8) (laidMet_of_run' 8 (by kernel_rfl) (by kernel_rfl)) (by kernel_rfl) (by kernel_rfl)
theorem globT {W : World} (h : laidMetH Tryd.prog laidT W) : GlobOk C.E.Γ (fun b => b < W.heap.size) W := by
  rw [MakeChecks.laidMetH_plain _ _ _ (by kernel_rfl)] at h
  refine globOk_tabs (P := Tryd.prog) (ts := tabs) ?_ ?_
  · intro t ht
    simp only [tabs, List.mem_cons, List.not_mem_nil, or_false] at ht
    rcases ht with rfl | rfl | rfl <;> kernel_rfl
  · intro t ht
    simp only [tabs, List.mem_cons, List.not_mem_nil, or_false] at ht
    rcases ht with rfl | rfl | rfl
    · exact tabIs_of_reads (g := 2) (t := 147) (e := 5) (n := 32) (by kernel_rfl) (by kernel_rfl) (by kernel_rfl) (by kernel_rfl) (by kernel_rfl) (by kernel_rfl) (Lib.laidMet.reads h (.head _))
    · exact tabIs_of_reads (g := 3) (t := 148) (e := 5) (n := 64) (by kernel_rfl) (by kernel_rfl) (by kernel_rfl) (by kernel_rfl) (by kernel_rfl) (by kernel_rfl) (Lib.laidMet.reads h (.tail _ (.head _)))
    · exact tabIs_of_reads (g := 1) (t := 141) (e := 22) (n := 20) (by kernel_rfl) (by kernel_rfl) (by kernel_rfl) (by kernel_rfl) (by kernel_rfl) (by kernel_rfl) (Lib.laidMet.reads h (.tail _ (.tail _ (.head _))))

theorem driftTells_lifted (os : Os) (started : os.Started) (H : Type) (enc : TypeId × Value → H) :
    ReturnsInHanded {} Tryd.checked os 6 .any (fun w args => (Rows.driftTellsSpec.pre enc Tryd.prog Tryd.f6 [] false w args ∧ laidMetH Tryd.prog laidT w) ∧ sizedMet enc Tryd.prog Tryd.f6 (OpenSpec.ofChange Rows.driftTellsSpec) false w args) (Rows.driftTellsSpec.post enc Tryd.prog Tryd.f6 Rows.driftTellsRow.apart Rows.driftTellsRow.fresh Rows.driftTellsRow.handsOn Rows.driftTellsRow.again) := by
  refine returnsInHanded_of_change_and (C := Tryd.checked) (X := fun w _ => laidMetH Tryd.prog laidT w) (fun _ _ _ hh h => h.of_heap hh) (by kernel_rfl) started (by kernel_rfl) Tryd.func6
    (ChangeSpec.witness_shaped (enc := enc) (C := Tryd.checked) (os := os) (X := fun w _ => laidMetH Tryd.prog laidT w) false (World.doorLaid Tryd.prog 29 os) #[.agg #[.string ⟨#[]⟩, .int .u64 0, .int .i64 0, .int .i64 0, .int .i64 0, .string ⟨#[]⟩, .int .i64 0, .string ⟨#[]⟩, .int .i64 0, .string ⟨#[]⟩, .bool false, .slice none 0 0, .slice none 0 0, .slice none 0 0, .slice none 0 0, .slice none 0 0, .slice none 0 0, .slice none 0 0, .int .i64 0, .int .i64 0, .slice none 0 0, .slice none 0 0], .agg #[.string ⟨#[]⟩, .int .u64 0, .int .i64 0, .int .i64 0, .int .i64 0, .string ⟨#[]⟩, .int .i64 0, .string ⟨#[]⟩, .int .i64 0, .string ⟨#[]⟩, .bool false, .slice none 0 0, .slice none 0 0, .slice none 0 0, .slice none 0 0, .slice none 0 0, .slice none 0 0, .slice none 0 0, .int .i64 0, .int .i64 0, .slice none 0 0, .slice none 0 0]] 8 rfl (World.shaped_of_RefB (by kernel_rfl) (by kernel_rfl)) (by kernel_rfl) (by kernel_rfl) (by kernel_rfl) (door_met os _)) ?_
  intro W base args ds gs before hval hW _ _ hL _
  refine law_contractG (C := C) (m := 8) mixed own_ok (by kernel_rfl) rfl (fun ds hd => ?_) driftTells_law W (globT hL) base args ds gs before hval hW
  match ds, hd with
  | [_, _], _ => rfl
theorem driftTells_holds : Rows.DriftTellsSaid :=
  OpenClaim.holds_of_wide 6 Tryd.f6 rfl rfl rfl rfl rfl rfl rfl ⟨rfl, rfl, rfl, rfl, rfl⟩ rfl rfl rfl rfl rfl (by kernel_rfl) Tryd.func6 (by kernel_rfl)
    (of_decide_eq_true (by kernel_rfl)) (by unfold Func.isWrapper; rw [if_neg (by decide +kernel)]; exact ⟨rfl, rfl⟩)
    (fun os started H enc _ => driftTells_lifted os started H enc)

theorem driftNone_lifted (os : Os) (started : os.Started) (H : Type) (enc : TypeId × Value → H) :
    ReturnsInHanded {} Tryd.checked os 8 .any (fun w args => (Rows.driftNoneSpec.pre enc Tryd.prog Tryd.f8 [] false w args ∧ laidMetH Tryd.prog laidT w) ∧ sizedMet enc Tryd.prog Tryd.f8 (OpenSpec.ofChange Rows.driftNoneSpec) false w args) (Rows.driftNoneSpec.post enc Tryd.prog Tryd.f8 Rows.driftNoneRow.apart Rows.driftNoneRow.fresh Rows.driftNoneRow.handsOn Rows.driftNoneRow.again) := by
  refine returnsInHanded_of_change_and (C := Tryd.checked) (X := fun w _ => laidMetH Tryd.prog laidT w) (fun _ _ _ hh h => h.of_heap hh) (by kernel_rfl) started (by kernel_rfl) Tryd.func8
    (ChangeSpec.witness_shaped (enc := enc) (C := Tryd.checked) (os := os) (X := fun w _ => laidMetH Tryd.prog laidT w) false (World.doorLaid Tryd.prog 29 os) #[.agg #[.string ⟨#[]⟩, .int .u64 0, .int .i64 0, .int .i64 0, .int .i64 0, .string ⟨#[]⟩, .int .i64 0, .string ⟨#[]⟩, .int .i64 0, .string ⟨#[]⟩, .bool false, .slice none 0 0, .slice none 0 0, .slice none 0 0, .slice none 0 0, .slice none 0 0, .slice none 0 0, .slice none 0 0, .int .i64 0, .int .i64 0, .slice none 0 0, .slice none 0 0], .agg #[.string ⟨#[]⟩, .int .u64 0, .int .i64 0, .int .i64 0, .int .i64 0, .string ⟨#[]⟩, .int .i64 0, .string ⟨#[]⟩, .int .i64 0, .string ⟨#[]⟩, .bool false, .slice none 0 0, .slice none 0 0, .slice none 0 0, .slice none 0 0, .slice none 0 0, .slice none 0 0, .slice none 0 0, .int .i64 0, .int .i64 0, .slice none 0 0, .slice none 0 0]] 8 rfl (World.shaped_of_RefB (by kernel_rfl) (by kernel_rfl)) (by kernel_rfl) (by kernel_rfl) (by kernel_rfl) (door_met os _)) ?_
  intro W base args ds gs before hval hW _ _ hL _
  refine law_contractG (C := C) (m := 8) mixed own_ok (by kernel_rfl) rfl (fun ds hd => ?_) driftNone_law W (globT hL) base args ds gs before hval hW
  match ds, hd with
  | [_, _], _ => rfl
theorem driftNone_holds : Rows.DriftNoneSaid :=
  OpenClaim.holds_of_wide 8 Tryd.f8 rfl rfl rfl rfl rfl rfl rfl ⟨rfl, rfl, rfl, rfl, rfl⟩ rfl rfl rfl rfl rfl (by kernel_rfl) Tryd.func8 (by kernel_rfl)
    (of_decide_eq_true (by kernel_rfl)) (by unfold Func.isWrapper; rw [if_neg (by decide +kernel)]; exact ⟨rfl, rfl⟩)
    (fun os started H enc _ => driftNone_lifted os started H enc)

theorem driftTurns_lifted (os : Os) (started : os.Started) (H : Type) (enc : TypeId × Value → H) :
    ReturnsInHanded {} Tryd.checked os 7 .any (fun w args => (Rows.driftTurnsSpec.pre enc Tryd.prog Tryd.f7 [] false w args ∧ laidMetH Tryd.prog laidT w) ∧ sizedMet enc Tryd.prog Tryd.f7 (OpenSpec.ofChange Rows.driftTurnsSpec) false w args) (Rows.driftTurnsSpec.post enc Tryd.prog Tryd.f7 Rows.driftTurnsRow.apart Rows.driftTurnsRow.fresh Rows.driftTurnsRow.handsOn Rows.driftTurnsRow.again) := by
  refine returnsInHanded_of_change_and (C := Tryd.checked) (X := fun w _ => laidMetH Tryd.prog laidT w) (fun _ _ _ hh h => h.of_heap hh) (by kernel_rfl) started (by kernel_rfl) Tryd.func7
    (ChangeSpec.witness_shaped (enc := enc) (C := Tryd.checked) (os := os) (X := fun w _ => laidMetH Tryd.prog laidT w) false (World.doorLaid Tryd.prog 29 os) #[.slice none 0 0, .agg #[.int .i64 0, .string ⟨#[]⟩, .int .i64 0, .int .i64 0]] 8 rfl (World.shaped_of_RefB (by kernel_rfl) (by kernel_rfl)) (by kernel_rfl) (by kernel_rfl) (by kernel_rfl) (door_met os _)) ?_
  intro W base args ds gs before hval hW _ _ hL _
  refine law_contractG (C := C) (m := 8) mixed own_ok (by kernel_rfl) rfl (fun ds hd => ?_) driftTurns_law W (globT hL) base args ds gs before hval hW
  match ds, hd with
  | [_, _], _ => rfl
theorem driftTurns_holds : Rows.DriftTurnsSaid :=
  OpenClaim.holds_of_wide 7 Tryd.f7 rfl rfl rfl rfl rfl rfl rfl ⟨rfl, rfl, rfl, rfl, rfl⟩ rfl rfl rfl rfl rfl (by kernel_rfl) Tryd.func7 (by kernel_rfl)
    (of_decide_eq_true (by kernel_rfl)) (by unfold Func.isWrapper; rw [if_neg (by decide +kernel)]; exact ⟨rfl, rfl⟩)
    (fun os started H enc _ => driftTurns_lifted os started H enc)

end Go.Proofs.YtgbmhicpkbmeaaaDoor
