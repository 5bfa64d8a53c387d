import Derived.Test.YtpdaanlppimbcaaTYoung27
import Derived.Test.YtpdaanlppimbcaaBr3
import Derived.Test.YtpdaanlppimbcaaRows
import Derived.JoinedOf
namespace Go.Proofs.Ytpdaanlppimbcaa
open Go.Am
open Go.ChangeShapes Go.WideShapes Go.ChangeAt Go.RowKit
set_option linter.unusedSimpArgs false
set_option linter.unusedVariables false
set_option maxRecDepth 100000

theorem items_of {es : List (List AVal)} (h : ∀ r ∈ es, Shs [.s, .s, .i .i64, .b] r) : ∃ l : List It, es = l.map It.cs ∧ ∀ x ∈ l, x.k.length ≤ 9223372036854775807 ∧ x.v.length ≤ 9223372036854775807 := by
  refine rows_map It.cs _ fun r hr => ?_
  have := h r hr
  simp only [Shs, Sh] at this
  obtain ⟨_, _, rfl, ⟨k, rfl, hk⟩, _, _, rfl, ⟨v, rfl, hv⟩, _, _, rfl, ⟨n, rfl, hn⟩, _, _, rfl, ⟨g, rfl⟩, rfl⟩ := this
  exact ⟨⟨k, v, n, g⟩, rfl, hk, hv⟩

theorem storePuts_law (ds : List AVal) (h : TAs C.E.P Try.f3.params.toList ds) : fn C 3 [] ds = some (.bool true, []) := by
  have h := TAs_sh h (show argShT C.E.P 6 Try.f3.params.toList = some [(false, [.sl 4 [.s, .s, .i .i64, .b]]), (false, [.s]), (false, [.s]), (false, [.b])] by kernel_rfl)
  simp only [ArgSh_one, ArgSh_agg, ArgSh_nil, Sh] at h
  obtain ⟨_, _, rfl, ⟨es, rfl, hl, hr⟩, _, _, rfl, ⟨k, rfl, hk⟩, _, _, rfl, ⟨v, rfl, hv⟩, _, _, rfl, ⟨g, rfl⟩, rfl⟩ := h
  obtain ⟨l, rfl, hx⟩ := items_of hr
  exact e3 l k v g (by simpa using hl) hx hk hv
theorem storePuts_lifted (os : Os) (started : os.Started) (H : Type) (enc : TypeId × Value → H) :
    ReturnsInHanded {} Try.checked os 3 .any (Rows.storePutsSpec.pre6 enc Try.prog Try.f3 Rows.storePutsRow.domain false) (Rows.storePutsSpec.post enc Try.prog Try.f3 Rows.storePutsRow.apart Rows.storePutsRow.fresh Rows.storePutsRow.handsOn Rows.storePutsRow.again) := by
  refine returnsInHanded_of_change (C := Try.checked) (by kernel_rfl) started (by kernel_rfl) Try.func3
    (ChangeSpec.witness6 (enc := enc) (C := Try.checked) false ⟨#[], #[.slice none 0 0, .string ⟨#[]⟩, .string ⟨#[]⟩, .bool false], []⟩ 8 (by kernel_rfl) (by kernel_rfl) (by kernel_rfl) (by kernel_rfl)) ?_
  intro W base args ds gs before hval hW _ _
  refine law_contract (C := C) (m := 6) mixed rfl own_ok (by kernel_rfl) rfl (fun ds hd => ?_) storePuts_law W base args ds gs before hval hW
  match ds, hd with
  | [_, _, _, _], _ => rfl
theorem storePuts_holds : Rows.StorePutsSaid :=
  OpenClaim.holds_of_wide 3 Try.f3 rfl rfl rfl rfl rfl rfl rfl ⟨rfl, rfl, rfl, rfl, rfl⟩ rfl rfl rfl rfl rfl (by kernel_rfl) Try.func3 (by kernel_rfl)
    (of_decide_eq_true (by kernel_rfl)) (by unfold Func.isWrapper; rw [if_neg (by decide +kernel)]; exact ⟨rfl, rfl⟩)
    (fun os started H enc _ => storePuts_lifted os started H enc)

theorem storeStays_law (ds : List AVal) (h : TAs C.E.P Try.f4.params.toList ds) : fn C 4 [] ds = some (.bool true, []) := by
  have h := TAs_sh h (show argShT C.E.P 6 Try.f4.params.toList = some [(false, [.sl 4 [.s, .s, .i .i64, .b]]), (false, [.s]), (false, [.s]), (false, [.b]), (false, [.sl 4 [.s, .s, .i .i64, .b]])] by kernel_rfl)
  simp only [ArgSh_one, ArgSh_agg, ArgSh_nil, Sh] at h
  obtain ⟨_, _, rfl, ⟨es, rfl, hl, hr⟩, _, _, rfl, ⟨k, rfl, hk⟩, _, _, rfl, ⟨v, rfl, hv⟩, _, _, rfl, ⟨g, rfl⟩, _, _, rfl, ⟨es2, rfl, hl2, hr2⟩, rfl⟩ := h
  obtain ⟨l, rfl, hx⟩ := items_of hr
  obtain ⟨m, rfl, hx2⟩ := items_of hr2
  exact e4 l m k v g (by simpa using hl) hx (by simpa using hl2) hx2 hk hv
theorem storeStays_lifted (os : Os) (started : os.Started) (H : Type) (enc : TypeId × Value → H) :
    ReturnsInHanded {} Try.checked os 4 .any (Rows.storeStaysSpec.pre6 enc Try.prog Try.f4 Rows.storeStaysRow.domain false) (Rows.storeStaysSpec.post enc Try.prog Try.f4 Rows.storeStaysRow.apart Rows.storeStaysRow.fresh Rows.storeStaysRow.handsOn Rows.storeStaysRow.again) := by
  refine returnsInHanded_of_change (C := Try.checked) (by kernel_rfl) started (by kernel_rfl) Try.func4
    (ChangeSpec.witness6 (enc := enc) (C := Try.checked) false ⟨#[], #[.slice none 0 0, .string ⟨#[]⟩, .string ⟨#[]⟩, .bool false, .slice none 0 0], []⟩ 8 (by kernel_rfl) (by kernel_rfl) (by kernel_rfl) (by kernel_rfl)) ?_
  intro W base args ds gs before hval hW _ _
  refine law_contract (C := C) (m := 6) mixed rfl own_ok (by kernel_rfl) rfl (fun ds hd => ?_) storeStays_law W base args ds gs before hval hW
  match ds, hd with
  | [_, _, _, _, _], _ => rfl
theorem storeStays_holds : Rows.StoreStaysSaid :=
  OpenClaim.holds_of_wide 4 Try.f4 rfl rfl rfl rfl rfl rfl rfl ⟨rfl, rfl, rfl, rfl, rfl⟩ rfl rfl rfl rfl rfl (by kernel_rfl) Try.func4 (by kernel_rfl)
    (of_decide_eq_true (by kernel_rfl)) (by unfold Func.isWrapper; rw [if_neg (by decide +kernel)]; exact ⟨rfl, rfl⟩)
    (fun os started H enc _ => storeStays_lifted os started H enc)

theorem storeYoung_law (ds : List AVal) (h : TAs C.E.P Try.f5.params.toList ds) : fn C 5 [] ds = some (.bool true, []) := by
  have h := TAs_sh h (show argShT C.E.P 6 Try.f5.params.toList = some [(false, [.sl 4 [.s, .s, .i .i64, .b]]), (false, [.sl 4 [.s, .s, .i .i64, .b]])] by kernel_rfl)
  simp only [ArgSh_one, ArgSh_agg, ArgSh_nil, Sh] at h
  obtain ⟨_, _, rfl, ⟨es, rfl, hl, hr⟩, _, _, rfl, ⟨es2, rfl, hl2, hr2⟩, rfl⟩ := h
  obtain ⟨l, rfl, hx⟩ := items_of hr
  obtain ⟨m, rfl, hx2⟩ := items_of hr2
  exact e5 l m (by simpa using hl) hx (by simpa using hl2) hx2
theorem storeYoung_lifted (os : Os) (started : os.Started) (H : Type) (enc : TypeId × Value → H) :
    ReturnsInHanded {} Try.checked os 5 .any (Rows.storeYoungSpec.pre6 enc Try.prog Try.f5 Rows.storeYoungRow.domain false) (Rows.storeYoungSpec.post enc Try.prog Try.f5 Rows.storeYoungRow.apart Rows.storeYoungRow.fresh Rows.storeYoungRow.handsOn Rows.storeYoungRow.again) := by
  refine returnsInHanded_of_change (C := Try.checked) (by kernel_rfl) started (by kernel_rfl) Try.func5
    (ChangeSpec.witness6 (enc := enc) (C := Try.checked) false ⟨#[], #[.slice none 0 0, .slice none 0 0], []⟩ 8 (by kernel_rfl) (by kernel_rfl) (by kernel_rfl) (by kernel_rfl)) ?_
  intro W base args ds gs before hval hW _ _
  refine law_contract (C := C) (m := 6) mixed rfl own_ok (by kernel_rfl) rfl (fun ds hd => ?_) storeYoung_law W base args ds gs before hval hW
  match ds, hd with
  | [_, _], _ => rfl
theorem storeYoung_holds : Rows.StoreYoungSaid :=
  OpenClaim.holds_of_wide 5 Try.f5 rfl rfl rfl rfl rfl rfl rfl ⟨rfl, rfl, rfl, rfl, rfl⟩ rfl rfl rfl rfl rfl (by kernel_rfl) Try.func5 (by kernel_rfl)
    (of_decide_eq_true (by kernel_rfl)) (by unfold Func.isWrapper; rw [if_neg (by decide +kernel)]; exact ⟨rfl, rfl⟩)
    (fun os started H enc _ => storeYoung_lifted os started H enc)

end Go.Proofs.Ytpdaanlppimbcaa
