/- The four statements of layer 29 (copies). -/
import Derived.Test.YtmfcabokoijcdaaTSame2
import Derived.Test.YtmfcabokoijcdaaBr4
import Derived.Test.YtmfcabokoijcdaaRows
import Derived.JoinedOf
namespace Go.Proofs.Ytmfcabokoijcdaa
open Go.Am
open Go.ChangeShapes Go.WideShapes Go.ChangeAt Go.RowKit
set_option linter.unusedSimpArgs false
set_option linter.unusedVariables false
set_option maxRecDepth 100000

theorem copiesSettle_law (ds : List AVal) (h : TAs C2.E.P Try.f5.params.toList ds) : fn C2 5 [] ds = some (.bool true, []) := by
  have h := TAs_sh h (show argShT C2.E.P 8 Try.f5.params.toList = some [(true, shNd), (false, [.i .i64]), (true, shIt), (false, [.b]), (false, [.i .i64])] by kernel_rfl)
  simp only [ArgSh_one, ArgSh_agg, ArgSh_nil, Sh] at h
  obtain ⟨_, _, rfl, hn, _, _, rfl, ⟨i, rfl, ki⟩, _, _, rfl, hx, _, _, rfl, ⟨b, rfl⟩, _, _, rfl, ⟨i2, rfl, ki2⟩, rfl⟩ := h
  obtain ⟨n, rfl, on, fn⟩ := rdNd hn
  obtain ⟨x, rfl, ox, fx⟩ := rdIt hx
  exact e5 n i x b i2 fn fx
theorem copiesSettle_lifted (os : Os) (started : os.Started) (H : Type) (enc : TypeId × Value → H) :
    ReturnsInHanded {} Try.checked os 5 .any (Rows.copiesSettleSpec.pre6 enc Try.prog Try.f5 Rows.copiesSettleRow.domain false) (Rows.copiesSettleSpec.post enc Try.prog Try.f5 Rows.copiesSettleRow.apart Rows.copiesSettleRow.fresh Rows.copiesSettleRow.handsOn Rows.copiesSettleRow.again) := by
  refine returnsInHanded_of_change (C := Try.checked) (by kernel_rfl) started (by kernel_rfl) Try.func5
    (ChangeSpec.witness6 (enc := enc) (C := Try.checked) false ⟨#[], #[.agg #[.string ⟨#[]⟩, .int .u64 0, .int .i64 0, .int .i64 0, .int .i64 0, .string ⟨#[]⟩, .int .i64 0, .string ⟨#[]⟩, .int .i64 0, .string ⟨#[]⟩, .bool false, .slice none 0 0, .slice none 0 0, .slice none 0 0, .slice none 0 0, .slice none 0 0, .slice none 0 0, .slice none 0 0, .int .i64 0, .int .i64 0, .slice none 0 0, .slice none 0 0], .int .i64 0, .agg #[.string ⟨#[]⟩, .string ⟨#[]⟩, .int .i64 0, .bool false], .bool false, .int .i64 0], []⟩ 8 (by kernel_rfl) (by kernel_rfl) (by kernel_rfl) (by kernel_rfl)) ?_
  intro W base args ds gs before hval hW _ _
  refine law_contract (C := C2) (m := 8) mixed rfl own2_ok (by kernel_rfl) rfl (fun ds hd => ?_) copiesSettle_law W base args ds gs before hval hW
  match ds, hd with
  | [_, _, _, _, _], _ => rfl
theorem copiesSettle_holds : Rows.CopiesSettleSaid :=
  OpenClaim.holds_of_wide 5 Try.f5 rfl rfl rfl rfl rfl rfl rfl ⟨rfl, rfl, rfl, rfl, rfl⟩ rfl rfl rfl rfl rfl (by kernel_rfl) Try.func5 (by kernel_rfl)
    (of_decide_eq_true (by kernel_rfl)) (by unfold Func.isWrapper; rw [if_neg (by decide +kernel)]; exact ⟨rfl, rfl⟩)
    (fun os started H enc _ => copiesSettle_lifted os started H enc)

theorem copiesBegin_law (ds : List AVal) (h : TAs C2.E.P Try.f3.params.toList ds) : fn C2 3 [] ds = some (.bool true, []) := by
  have h := TAs_sh h (show argShT C2.E.P 8 Try.f3.params.toList = some [(true, shNd), (false, [.s]), (false, [.s]), (false, [.b]), (true, shEn), (false, [.i .i64]), (false, [.i .i64])] by kernel_rfl)
  simp only [ArgSh_one, ArgSh_agg, ArgSh_nil, Sh] at h
  obtain ⟨_, _, rfl, hn, _, _, rfl, ⟨s, rfl, ks⟩, _, _, rfl, ⟨s2, rfl, ks2⟩, _, _, rfl, ⟨b, rfl⟩, _, _, rfl, he, _, _, rfl, ⟨i, rfl, ki⟩, _, _, rfl, ⟨i2, rfl, ki2⟩, rfl⟩ := h
  obtain ⟨n, rfl, on, fn⟩ := rdNd hn
  obtain ⟨e, rfl, oe, fe⟩ := rdEn he
  exact e3 n s s2 b e i i2 on fn ks ks2 fe
theorem copiesBegin_lifted (os : Os) (started : os.Started) (H : Type) (enc : TypeId × Value → H) :
    ReturnsInHanded {} Try.checked os 3 .any (Rows.copiesBeginSpec.pre6 enc Try.prog Try.f3 Rows.copiesBeginRow.domain false) (Rows.copiesBeginSpec.post enc Try.prog Try.f3 Rows.copiesBeginRow.apart Rows.copiesBeginRow.fresh Rows.copiesBeginRow.handsOn Rows.copiesBeginRow.again) := by
  refine returnsInHanded_of_change (C := Try.checked) (by kernel_rfl) started (by kernel_rfl) Try.func3
    (ChangeSpec.witness6 (enc := enc) (C := Try.checked) false ⟨#[], #[.agg #[.string ⟨#[]⟩, .int .u64 0, .int .i64 0, .int .i64 0, .int .i64 0, .string ⟨#[]⟩, .int .i64 0, .string ⟨#[]⟩, .int .i64 0, .string ⟨#[]⟩, .bool false, .slice none 0 0, .slice none 0 0, .slice none 0 0, .slice none 0 0, .slice none 0 0, .slice none 0 0, .slice none 0 0, .int .i64 0, .int .i64 0, .slice none 0 0, .slice none 0 0], .string ⟨#[]⟩, .string ⟨#[]⟩, .bool false, .agg #[.string ⟨#[]⟩, .int .u64 0, .int .i64 0, .int .i64 0, .int .i64 0, .string ⟨#[]⟩], .int .i64 0, .int .i64 0], []⟩ 8 (by kernel_rfl) (by kernel_rfl) (by kernel_rfl) (by kernel_rfl)) ?_
  intro W base args ds gs before hval hW _ _
  refine law_contract (C := C2) (m := 8) mixed rfl own2_ok (by kernel_rfl) rfl (fun ds hd => ?_) copiesBegin_law W base args ds gs before hval hW
  match ds, hd with
  | [_, _, _, _, _, _, _], _ => rfl
theorem copiesBegin_holds : Rows.CopiesBeginSaid :=
  OpenClaim.holds_of_wide 3 Try.f3 rfl rfl rfl rfl rfl rfl rfl ⟨rfl, rfl, rfl, rfl, rfl⟩ rfl rfl rfl rfl rfl (by kernel_rfl) Try.func3 (by kernel_rfl)
    (of_decide_eq_true (by kernel_rfl)) (by unfold Func.isWrapper; rw [if_neg (by decide +kernel)]; exact ⟨rfl, rfl⟩)
    (fun os started H enc _ => copiesBegin_lifted os started H enc)

theorem copiesGo_law (ds : List AVal) (h : TAs C2.E.P Try.f6.params.toList ds) : fn C2 6 [] ds = some (.bool true, []) := by
  have h := TAs_sh h (show argShT C2.E.P 8 Try.f6.params.toList = some [(true, shNd), (false, [.i .i64]), (false, [.i .i64])] by kernel_rfl)
  simp only [ArgSh_one, ArgSh_agg, ArgSh_nil, Sh] at h
  obtain ⟨_, _, rfl, hn, _, _, rfl, ⟨i, rfl, ki⟩, _, _, rfl, ⟨i2, rfl, ki2⟩, rfl⟩ := h
  obtain ⟨n, rfl, on, fn⟩ := rdNd hn
  exact e6 n i i2 fn
theorem copiesGo_lifted (os : Os) (started : os.Started) (H : Type) (enc : TypeId × Value → H) :
    ReturnsInHanded {} Try.checked os 6 .any (Rows.copiesGoSpec.pre6 enc Try.prog Try.f6 Rows.copiesGoRow.domain false) (Rows.copiesGoSpec.post enc Try.prog Try.f6 Rows.copiesGoRow.apart Rows.copiesGoRow.fresh Rows.copiesGoRow.handsOn Rows.copiesGoRow.again) := by
  refine returnsInHanded_of_change (C := Try.checked) (by kernel_rfl) started (by kernel_rfl) Try.func6
    (ChangeSpec.witness6 (enc := enc) (C := Try.checked) false ⟨#[], #[.agg #[.string ⟨#[]⟩, .int .u64 0, .int .i64 0, .int .i64 0, .int .i64 0, .string ⟨#[]⟩, .int .i64 0, .string ⟨#[]⟩, .int .i64 0, .string ⟨#[]⟩, .bool false, .slice none 0 0, .slice none 0 0, .slice none 0 0, .slice none 0 0, .slice none 0 0, .slice none 0 0, .slice none 0 0, .int .i64 0, .int .i64 0, .slice none 0 0, .slice none 0 0], .int .i64 0, .int .i64 0], []⟩ 8 (by kernel_rfl) (by kernel_rfl) (by kernel_rfl) (by kernel_rfl)) ?_
  intro W base args ds gs before hval hW _ _
  refine law_contract (C := C2) (m := 8) mixed rfl own2_ok (by kernel_rfl) rfl (fun ds hd => ?_) copiesGo_law W base args ds gs before hval hW
  match ds, hd with
  | [_, _, _], _ => rfl
theorem copiesGo_holds : Rows.CopiesGoSaid :=
  OpenClaim.holds_of_wide 6 Try.f6 rfl rfl rfl rfl rfl rfl rfl ⟨rfl, rfl, rfl, rfl, rfl⟩ rfl rfl rfl rfl rfl (by kernel_rfl) Try.func6 (by kernel_rfl)
    (of_decide_eq_true (by kernel_rfl)) (by unfold Func.isWrapper; rw [if_neg (by decide +kernel)]; exact ⟨rfl, rfl⟩)
    (fun os started H enc _ => copiesGo_lifted os started H enc)

theorem copiesOnce_law (ds : List AVal) (h : TAs C2.E.P Try.f4.params.toList ds) : fn C2 4 [] ds = some (.bool true, []) := by
  have h := TAs_sh h (show argShT C2.E.P 8 Try.f4.params.toList = some [(true, shNd), (false, [.s]), (false, [.s]), (true, shEn), (false, [.i .i64])] by kernel_rfl)
  simp only [ArgSh_one, ArgSh_agg, ArgSh_nil, Sh] at h
  obtain ⟨_, _, rfl, hn, _, _, rfl, ⟨s, rfl, ks⟩, _, _, rfl, ⟨s2, rfl, ks2⟩, _, _, rfl, he, _, _, rfl, ⟨i, rfl, ki⟩, rfl⟩ := h
  obtain ⟨n, rfl, on, fn⟩ := rdNd hn
  obtain ⟨e, rfl, oe, fe⟩ := rdEn he
  exact e4 n s s2 e i on fn ks ks2 fe
theorem copiesOnce_lifted (os : Os) (started : os.Started) (H : Type) (enc : TypeId × Value → H) :
    ReturnsInHanded {} Try.checked os 4 .any (Rows.copiesOnceSpec.pre6 enc Try.prog Try.f4 Rows.copiesOnceRow.domain false) (Rows.copiesOnceSpec.post enc Try.prog Try.f4 Rows.copiesOnceRow.apart Rows.copiesOnceRow.fresh Rows.copiesOnceRow.handsOn Rows.copiesOnceRow.again) := by
  refine returnsInHanded_of_change (C := Try.checked) (by kernel_rfl) started (by kernel_rfl) Try.func4
    (ChangeSpec.witness6 (enc := enc) (C := Try.checked) false ⟨#[], #[.agg #[.string ⟨#[]⟩, .int .u64 0, .int .i64 0, .int .i64 0, .int .i64 0, .string ⟨#[]⟩, .int .i64 0, .string ⟨#[]⟩, .int .i64 0, .string ⟨#[]⟩, .bool false, .slice none 0 0, .slice none 0 0, .slice none 0 0, .slice none 0 0, .slice none 0 0, .slice none 0 0, .slice none 0 0, .int .i64 0, .int .i64 0, .slice none 0 0, .slice none 0 0], .string ⟨#[]⟩, .string ⟨#[]⟩, .agg #[.string ⟨#[]⟩, .int .u64 0, .int .i64 0, .int .i64 0, .int .i64 0, .string ⟨#[]⟩], .int .i64 0], []⟩ 8 (by kernel_rfl) (by kernel_rfl) (by kernel_rfl) (by kernel_rfl)) ?_
  intro W base args ds gs before hval hW _ _
  refine law_contract (C := C2) (m := 8) mixed rfl own2_ok (by kernel_rfl) rfl (fun ds hd => ?_) copiesOnce_law W base args ds gs before hval hW
  match ds, hd with
  | [_, _, _, _, _], _ => rfl
theorem copiesOnce_holds : Rows.CopiesOnceSaid :=
  OpenClaim.holds_of_wide 4 Try.f4 rfl rfl rfl rfl rfl rfl rfl ⟨rfl, rfl, rfl, rfl, rfl⟩ rfl rfl rfl rfl rfl (by kernel_rfl) Try.func4 (by kernel_rfl)
    (of_decide_eq_true (by kernel_rfl)) (by unfold Func.isWrapper; rw [if_neg (by decide +kernel)]; exact ⟨rfl, rfl⟩)
    (fun os started H enc _ => copiesOnce_lifted os started H enc)


end Go.Proofs.Ytmfcabokoijcdaa
