import Derived.Test.YtfifgnffipdmeaaDoorTLaws10
import Derived.Test.YtfifgnffipdmeaaDoorBr4
import Derived.Test.YtfifgnffipdmeaaDoorRows
import Derived.LaidMore
import Derived.OpenShut
import Derived.Stop.Joined
import Derived.MakeChecks
namespace Go.Proofs.YtfifgnffipdmeaaDoor
open Go.Am
open Go.ChangeShapes Go.WideShapes Go.ChangeAt Go.RowKit
set_option linter.unusedSimpArgs false
set_option linter.unusedVariables false
set_option maxRecDepth 100000


theorem bytes_of {es : List (List AVal)} (h : ∀ r ∈ es, Shs [.i .u8] r) : ∃ l : List UInt8, es = l.map byteRow := by
  obtain ⟨l, h1, _⟩ := rows_map byteRow (fun _ => True) (fun r hr => by
    have := h r hr
    simp only [Shs, Sh] at this
    obtain ⟨_, _, rfl, ⟨z, rfl, hz⟩, rfl⟩ := this
    have hz := wf_u8 hz
    exact ⟨UInt8.ofNat z.toNat, by simp [byteRow]; omega, trivial⟩)
  exact ⟨l, h1⟩

theorem labelWrites_law (ds : List AVal) (h : TAs C.E.P Tryd.f3.params.toList ds) : fn C 3 [] ds = some (.bool true, []) := by
  have h := TAs_sh h (show argShT C.E.P 6 Tryd.f3.params.toList = some [(false, [.i .u64]), (false, [.i .i64]), (false, [.sl 1 [.i .u8]])] by kernel_rfl)
  simp only [ArgSh_one, ArgSh_nil, Sh] at h
  obtain ⟨_, _, rfl, ⟨n, rfl, hn⟩, _, _, rfl, ⟨k, rfl, hk⟩, _, _, rfl, ⟨e3, rfl, l3, h3⟩, rfl⟩ := h
  obtain ⟨b3, rfl⟩ := bytes_of h3
  have hn := wf_u64 hn
  have hk := wf_i64 hk
  obtain ⟨m, rfl⟩ := Int.eq_ofNat_of_zero_le hn.1
  exact e3 m k b3 (by omega) (by omega) (by omega) (by simpa using l3)
theorem labelReads_law (ds : List AVal) (h : TAs C.E.P Tryd.f4.params.toList ds) : fn C 4 [] ds = some (.bool true, []) := by
  have h := TAs_sh h (show argShT C.E.P 6 Tryd.f4.params.toList = some [(false, [.s])] by kernel_rfl)
  simp only [ArgSh_one, ArgSh_nil, Sh] at h
  obtain ⟨_, _, rfl, ⟨k, rfl, hk⟩, rfl⟩ := h
  exact e4 k (by simpa using hk)
theorem labelBack_law (ds : List AVal) (h : TAs C.E.P Tryd.f5.params.toList ds) : fn C 5 [] ds = some (.bool true, []) := by
  have h := TAs_sh h (show argShT C.E.P 6 Tryd.f5.params.toList = some [(false, [.i .u64]), (false, [.i .i64]), (false, [.sl 1 [.i .u8]])] by kernel_rfl)
  simp only [ArgSh_one, ArgSh_nil, Sh] at h
  obtain ⟨_, _, rfl, ⟨n, rfl, hn⟩, _, _, rfl, ⟨k, rfl, hk⟩, _, _, rfl, ⟨e3, rfl, l3, h3⟩, rfl⟩ := h
  obtain ⟨b3, rfl⟩ := bytes_of h3
  have hn := wf_u64 hn
  have hk := wf_i64 hk
  obtain ⟨m, rfl⟩ := Int.eq_ofNat_of_zero_le hn.1
  exact e5 m k b3 (by omega) (by omega) (by omega) (by simpa using l3)

abbrev laid3 : List (String × DataW Unit) := [("math/bits.deBruijn32tab", Rows.laid_math_bits_deBruijn32tab), ("math/bits.deBruijn64tab", Rows.laid_math_bits_deBruijn64tab), ("internal/strconv.uint64pow10", Rows.laid_internal_strconv_uint64pow10)]
theorem door_met3 (os : Os) (args : Array Value) : laidMetH Tryd.prog laid3 ((World.doorLaid Tryd.prog 29 os).forCall (fun _ _ => 0) ⟨#[], args, []⟩).memory :=
  laidMetH_of_parts3 (fuel := 8) (laidMet_of_run' 8 (by kernel_rfl) (by kernel_rfl)) (by kernel_rfl) (by kernel_rfl)
theorem glob3 {W : World} (h : laidMetH Tryd.prog laid3 W) : GlobOk C.E.Γ (fun b => b < W.heap.size) W := by
  rw [MakeChecks.laidMetH_plain _ _ _ (by kernel_rfl)] at h
  refine globOk_tabs (P := Tryd.prog) (ts := tabs) ?_ ?_
  · intro t ht
    simp only [tabs, List.mem_cons, List.not_mem_nil, or_false] at ht
    rcases ht with rfl | rfl | rfl <;> kernel_rfl
  · intro t ht
    simp only [tabs, List.mem_cons, List.not_mem_nil, or_false] at ht
    rcases ht with rfl | rfl | rfl
    · exact tabIs_of_reads (g := 3) (t := 87) (e := 5) (n := 32) (by kernel_rfl) (by kernel_rfl) (by kernel_rfl) (by kernel_rfl) (by kernel_rfl) (by kernel_rfl) (Lib.laidMet.reads h (.head _))
    · exact tabIs_of_reads (g := 4) (t := 63) (e := 5) (n := 64) (by kernel_rfl) (by kernel_rfl) (by kernel_rfl) (by kernel_rfl) (by kernel_rfl) (by kernel_rfl) (Lib.laidMet.reads h (.tail _ (.head _)))
    · exact tabIs_of_reads (g := 1) (t := 82) (e := 22) (n := 20) (by kernel_rfl) (by kernel_rfl) (by kernel_rfl) (by kernel_rfl) (by kernel_rfl) (by kernel_rfl) (Lib.laidMet.reads h (.tail _ (.tail _ (.head _))))

theorem labelWrites_lifted (os : Os) (started : os.Started) (H : Type) (enc : TypeId × Value → H) :
    ReturnsInHanded {} Tryd.checked os 3 .any (fun w args => (Rows.labelWritesSpec.pre enc Tryd.prog Tryd.f3 [] false w args ∧ laidMetH Tryd.prog laid3 w) ∧ sizedMet enc Tryd.prog Tryd.f3 (OpenSpec.ofChange Rows.labelWritesSpec) false w args) (Rows.labelWritesSpec.post enc Tryd.prog Tryd.f3 Rows.labelWritesRow.apart Rows.labelWritesRow.fresh Rows.labelWritesRow.handsOn Rows.labelWritesRow.again) := by
  refine returnsInHanded_of_change_and (C := Tryd.checked) (X := fun w _ => laidMetH Tryd.prog laid3 w) (fun _ _ _ hh h => h.of_heap hh) (by kernel_rfl) started (by kernel_rfl) Tryd.func3
    (ChangeSpec.witness_shaped (enc := enc) (C := Tryd.checked) (os := os) (X := fun w _ => laidMetH Tryd.prog laid3 w) false (World.doorLaid Tryd.prog 29 os) #[.int .u64 0, .int .i64 0, .slice none 0 0] 8 rfl (World.shaped_of_RefB (by kernel_rfl) (by kernel_rfl)) (by kernel_rfl) (by kernel_rfl) (by kernel_rfl) (door_met3 os _)) ?_
  intro W base args ds gs before hval hW _ _ hL _
  refine law_contractG (C := C) (m := 6) mixed own_ok (by kernel_rfl) rfl (fun ds hd => ?_) labelWrites_law W (glob3 hL) base args ds gs before hval hW
  match ds, hd with
  | [_, _, _], _ => rfl
theorem labelWrites_holds : Rows.LabelWritesSaid :=
  OpenClaim.holds_of_wide 3 Tryd.f3 rfl rfl rfl rfl rfl rfl rfl ⟨rfl, rfl, rfl, rfl, rfl⟩ rfl rfl rfl rfl rfl (by kernel_rfl) Tryd.func3 (by kernel_rfl)
    (of_decide_eq_true (by kernel_rfl)) (by unfold Func.isWrapper; rw [if_neg (by decide +kernel)]; exact ⟨rfl, rfl⟩)
    (fun os started H enc _ => labelWrites_lifted os started H enc)

theorem labelReads_lifted (os : Os) (started : os.Started) (H : Type) (enc : TypeId × Value → H) :
    ReturnsInHanded {} Tryd.checked os 4 .any (fun w args => (Rows.labelReadsSpec.pre enc Tryd.prog Tryd.f4 [] false w args ∧ laidMetH Tryd.prog laid3 w) ∧ sizedMet enc Tryd.prog Tryd.f4 (OpenSpec.ofChange Rows.labelReadsSpec) false w args) (Rows.labelReadsSpec.post enc Tryd.prog Tryd.f4 Rows.labelReadsRow.apart Rows.labelReadsRow.fresh Rows.labelReadsRow.handsOn Rows.labelReadsRow.again) := by
  refine returnsInHanded_of_change_and (C := Tryd.checked) (X := fun w _ => laidMetH Tryd.prog laid3 w) (fun _ _ _ hh h => h.of_heap hh) (by kernel_rfl) started (by kernel_rfl) Tryd.func4
    (ChangeSpec.witness_shaped (enc := enc) (C := Tryd.checked) (os := os) (X := fun w _ => laidMetH Tryd.prog laid3 w) false (World.doorLaid Tryd.prog 29 os) #[.string ⟨#[]⟩] 8 rfl (World.shaped_of_RefB (by kernel_rfl) (by kernel_rfl)) (by kernel_rfl) (by kernel_rfl) (by kernel_rfl) (door_met3 os _)) ?_
  intro W base args ds gs before hval hW _ _ hL _
  refine law_contractG (C := C) (m := 6) mixed own_ok (by kernel_rfl) rfl (fun ds hd => ?_) labelReads_law W (glob3 hL) base args ds gs before hval hW
  match ds, hd with
  | [_], _ => rfl
theorem labelReads_holds : Rows.LabelReadsSaid :=
  OpenClaim.holds_of_wide 4 Tryd.f4 rfl rfl rfl rfl rfl rfl rfl ⟨rfl, rfl, rfl, rfl, rfl⟩ rfl rfl rfl rfl rfl (by kernel_rfl) Tryd.func4 (by kernel_rfl)
    (of_decide_eq_true (by kernel_rfl)) (by unfold Func.isWrapper; rw [if_neg (by decide +kernel)]; exact ⟨rfl, rfl⟩)
    (fun os started H enc _ => labelReads_lifted os started H enc)

theorem labelBack_lifted (os : Os) (started : os.Started) (H : Type) (enc : TypeId × Value → H) :
    ReturnsInHanded {} Tryd.checked os 5 .any (fun w args => (Rows.labelBackSpec.pre enc Tryd.prog Tryd.f5 [] false w args ∧ laidMetH Tryd.prog laid3 w) ∧ sizedMet enc Tryd.prog Tryd.f5 (OpenSpec.ofChange Rows.labelBackSpec) false w args) (Rows.labelBackSpec.post enc Tryd.prog Tryd.f5 Rows.labelBackRow.apart Rows.labelBackRow.fresh Rows.labelBackRow.handsOn Rows.labelBackRow.again) := by
  refine returnsInHanded_of_change_and (C := Tryd.checked) (X := fun w _ => laidMetH Tryd.prog laid3 w) (fun _ _ _ hh h => h.of_heap hh) (by kernel_rfl) started (by kernel_rfl) Tryd.func5
    (ChangeSpec.witness_shaped (enc := enc) (C := Tryd.checked) (os := os) (X := fun w _ => laidMetH Tryd.prog laid3 w) false (World.doorLaid Tryd.prog 29 os) #[.int .u64 0, .int .i64 0, .slice none 0 0] 8 rfl (World.shaped_of_RefB (by kernel_rfl) (by kernel_rfl)) (by kernel_rfl) (by kernel_rfl) (by kernel_rfl) (door_met3 os _)) ?_
  intro W base args ds gs before hval hW _ _ hL _
  refine law_contractG (C := C) (m := 6) mixed own_ok (by kernel_rfl) rfl (fun ds hd => ?_) labelBack_law W (glob3 hL) base args ds gs before hval hW
  match ds, hd with
  | [_, _, _], _ => rfl
theorem labelBack_holds : Rows.LabelBackSaid :=
  OpenClaim.holds_of_wide 5 Tryd.f5 rfl rfl rfl rfl rfl rfl rfl ⟨rfl, rfl, rfl, rfl, rfl⟩ rfl rfl rfl rfl rfl (by kernel_rfl) Tryd.func5 (by kernel_rfl)
    (of_decide_eq_true (by kernel_rfl)) (by unfold Func.isWrapper; rw [if_neg (by decide +kernel)]; exact ⟨rfl, rfl⟩)
    (fun os started H enc _ => labelBack_lifted os started H enc)

end Go.Proofs.YtfifgnffipdmeaaDoor
