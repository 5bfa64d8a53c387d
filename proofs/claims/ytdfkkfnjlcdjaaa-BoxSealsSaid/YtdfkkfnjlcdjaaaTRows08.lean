import Derived.Test.YtdfkkfnjlcdjaaaTLaws08
import Derived.Test.YtdfkkfnjlcdjaaaBr3
import Derived.Test.YtdfkkfnjlcdjaaaRows
import Derived.JoinedOf
namespace Go.Proofs.Ytdfkkfnjlcdjaaa
open Go.Am
open Go.ChangeShapes Go.WideShapes Go.ChangeAt Go.RowKit
set_option linter.unusedSimpArgs false
set_option linter.unusedVariables false
set_option maxRecDepth 100000

theorem bytes_of {es : List (List AVal)} (h : ∀ r ∈ es, Shs [.i .u8] r) : ∃ l : List UInt8, es = l.map byteRow := by
  obtain ⟨l, h1, _⟩ := rows_map byteRow (fun _ => True) (fun r hr => by
    have := h r hr
    simp only [Shs, Sh] at this
    obtain ⟨_, _, rfl, ⟨z, rfl, hz⟩, rfl⟩ := this
    have hz := wf_u8 hz
    exact ⟨UInt8.ofNat z.toNat, by simp [byteRow]; omega, trivial⟩)
  exact ⟨l, h1⟩
theorem cells_of : ∀ {n : Nat} {ds : List AVal}, Shs (List.replicate n (.i .u8)) ds → ∃ l : List UInt8, l.length = n ∧ ds = l.map w8
  | 0, ds, h => ⟨[], rfl, h⟩
  | n + 1, ds, h => by
    rw [List.replicate_succ] at h
    simp only [Shs, Sh] at h
    obtain ⟨_, ds', rfl, ⟨z, rfl, hz⟩, h2⟩ := h
    have hz := wf_u8 hz
    obtain ⟨l, hl, rfl⟩ := cells_of h2
    exact ⟨UInt8.ofNat z.toNat :: l, by simp [hl], by simp [w8]; omega⟩

theorem boxSeals_law (ds : List AVal) (h : TAs C.E.P Try.f3.params.toList ds) : fn C 3 [] ds = some (.bool true, []) := by
  have h := TAs_sh h (show argShT C.E.P 6 Try.f3.params.toList = some [(false, [.sl 1 [.i .u8]]), (false, [.sl 1 [.i .u8]]), (false, [.sl 1 [.i .u8]]), (false, [.sl 1 [.i .u8]]), (false, [.i .u64])] by kernel_rfl)
  simp only [ArgSh_one, ArgSh_nil, Sh] at h
  obtain ⟨_, _, rfl, ⟨e1, rfl, l1, h1⟩, _, _, rfl, ⟨e2, rfl, l2, h2⟩, _, _, rfl, ⟨e3, rfl, l3, h3⟩, _, _, rfl, ⟨e4, rfl, l4, h4⟩, _, _, rfl, ⟨n, rfl, hn⟩, rfl⟩ := h
  obtain ⟨b1, rfl⟩ := bytes_of h1
  obtain ⟨b2, rfl⟩ := bytes_of h2
  obtain ⟨b3, rfl⟩ := bytes_of h3
  obtain ⟨b4, rfl⟩ := bytes_of h4
  have hn := wf_u64 hn
  obtain ⟨m, rfl⟩ := Int.eq_ofNat_of_zero_le hn.1
  exact e3 b1 b2 b3 b4 m (by omega) (by simpa using l1) (by simpa using l2) (by simpa using l3) (by simpa using l4)
theorem boxOpens_law (ds : List AVal) (h : TAs C.E.P Try.f4.params.toList ds) : fn C 4 [] ds = some (.bool true, []) := by
  have h := TAs_sh h (show argShT C.E.P 6 Try.f4.params.toList = some [(false, [.sl 1 [.i .u8]]), (false, [.sl 1 [.i .u8]]), (false, [.sl 1 [.i .u8]]), (false, [.sl 1 [.i .u8]])] by kernel_rfl)
  simp only [ArgSh_one, ArgSh_nil, Sh] at h
  obtain ⟨_, _, rfl, ⟨e1, rfl, l1, h1⟩, _, _, rfl, ⟨e2, rfl, l2, h2⟩, _, _, rfl, ⟨e3, rfl, l3, h3⟩, _, _, rfl, ⟨e4, rfl, l4, h4⟩, rfl⟩ := h
  obtain ⟨b1, rfl⟩ := bytes_of h1
  obtain ⟨b2, rfl⟩ := bytes_of h2
  obtain ⟨b3, rfl⟩ := bytes_of h3
  obtain ⟨b4, rfl⟩ := bytes_of h4
  exact e4 b1 b2 b3 b4 (by simpa using l1) (by simpa using l2) (by simpa using l3) (by simpa using l4)
theorem boxBack_law (ds : List AVal) (h : TAs C.E.P Try.f5.params.toList ds) : fn C 5 [] ds = some (.bool true, []) := by
  have h := TAs_sh h (show argShT C.E.P 6 Try.f5.params.toList = some [(true, List.replicate 32 (.i .u8)), (false, [.i .u64]), (false, [.sl 1 [.i .u8]]), (false, [.sl 1 [.i .u8]]), (false, [.i .u8]), (false, [.i .u8])] by kernel_rfl)
  simp only [ArgSh_one, ArgSh_agg, ArgSh_nil, Sh] at h
  obtain ⟨_, _, rfl, hk, _, _, rfl, ⟨n, rfl, hn⟩, _, _, rfl, ⟨e3, rfl, l3, h3⟩, _, _, rfl, ⟨e4, rfl, l4, h4⟩, _, _, rfl, ⟨x, rfl, hx⟩, _, _, rfl, ⟨y, rfl, hy⟩, rfl⟩ := h
  obtain ⟨key, hkl, rfl⟩ := cells_of hk
  obtain ⟨b3, rfl⟩ := bytes_of h3
  obtain ⟨b4, rfl⟩ := bytes_of h4
  have hn := wf_u64 hn
  have hx := wf_u8 hx
  have hy := wf_u8 hy
  obtain ⟨m, rfl⟩ := Int.eq_ofNat_of_zero_le hn.1
  have ex : x = ((UInt8.ofNat x.toNat).toNat : Int) := by simp; omega
  have ey : y = ((UInt8.ofNat y.toNat).toNat : Int) := by simp; omega
  rw [ex, ey]
  exact e5 key m b3 b4 _ _ hkl (by omega) (by simpa using l3) (by simpa using l4)

theorem boxSeals_lifted (os : Os) (started : os.Started) (H : Type) (enc : TypeId × Value → H) :
    ReturnsInHanded {} Try.checked os 3 .any (Rows.boxSealsSpec.pre6 enc Try.prog Try.f3 Rows.boxSealsRow.domain false) (Rows.boxSealsSpec.post enc Try.prog Try.f3 Rows.boxSealsRow.apart Rows.boxSealsRow.fresh Rows.boxSealsRow.handsOn Rows.boxSealsRow.again) := by
  refine returnsInHanded_of_change (C := Try.checked) (by kernel_rfl) started (by kernel_rfl) Try.func3
    (ChangeSpec.witness6 (enc := enc) (C := Try.checked) false ⟨#[], #[.slice none 0 0, .slice none 0 0, .slice none 0 0, .slice none 0 0, .int .u64 0], []⟩ 8 (by kernel_rfl) (by kernel_rfl) (by kernel_rfl) (by kernel_rfl)) ?_
  intro W base args ds gs before hval hW _ _
  refine law_contract (C := C) (m := 6) mixed rfl own_ok (by kernel_rfl) rfl (fun ds hd => ?_) boxSeals_law W base args ds gs before hval hW
  match ds, hd with
  | [_, _, _, _, _], _ => rfl
theorem boxSeals_holds : Rows.BoxSealsSaid :=
  OpenClaim.holds_of_wide 3 Try.f3 rfl rfl rfl rfl rfl rfl rfl ⟨rfl, rfl, rfl, rfl, rfl⟩ rfl rfl rfl rfl rfl (by kernel_rfl) Try.func3 (by kernel_rfl)
    (of_decide_eq_true (by kernel_rfl)) (by unfold Func.isWrapper; rw [if_neg (by decide +kernel)]; exact ⟨rfl, rfl⟩)
    (fun os started H enc _ => boxSeals_lifted os started H enc)

theorem boxOpens_lifted (os : Os) (started : os.Started) (H : Type) (enc : TypeId × Value → H) :
    ReturnsInHanded {} Try.checked os 4 .any (Rows.boxOpensSpec.pre6 enc Try.prog Try.f4 Rows.boxOpensRow.domain false) (Rows.boxOpensSpec.post enc Try.prog Try.f4 Rows.boxOpensRow.apart Rows.boxOpensRow.fresh Rows.boxOpensRow.handsOn Rows.boxOpensRow.again) := by
  refine returnsInHanded_of_change (C := Try.checked) (by kernel_rfl) started (by kernel_rfl) Try.func4
    (ChangeSpec.witness6 (enc := enc) (C := Try.checked) false ⟨#[], #[.slice none 0 0, .slice none 0 0, .slice none 0 0, .slice none 0 0], []⟩ 8 (by kernel_rfl) (by kernel_rfl) (by kernel_rfl) (by kernel_rfl)) ?_
  intro W base args ds gs before hval hW _ _
  refine law_contract (C := C) (m := 6) mixed rfl own_ok (by kernel_rfl) rfl (fun ds hd => ?_) boxOpens_law W base args ds gs before hval hW
  match ds, hd with
  | [_, _, _, _], _ => rfl
theorem boxOpens_holds : Rows.BoxOpensSaid :=
  OpenClaim.holds_of_wide 4 Try.f4 rfl rfl rfl rfl rfl rfl rfl ⟨rfl, rfl, rfl, rfl, rfl⟩ rfl rfl rfl rfl rfl (by kernel_rfl) Try.func4 (by kernel_rfl)
    (of_decide_eq_true (by kernel_rfl)) (by unfold Func.isWrapper; rw [if_neg (by decide +kernel)]; exact ⟨rfl, rfl⟩)
    (fun os started H enc _ => boxOpens_lifted os started H enc)

theorem boxBack_lifted (os : Os) (started : os.Started) (H : Type) (enc : TypeId × Value → H) :
    ReturnsInHanded {} Try.checked os 5 .any (Rows.boxBackSpec.pre6 enc Try.prog Try.f5 Rows.boxBackRow.domain false) (Rows.boxBackSpec.post enc Try.prog Try.f5 Rows.boxBackRow.apart Rows.boxBackRow.fresh Rows.boxBackRow.handsOn Rows.boxBackRow.again) := by
  refine returnsInHanded_of_change (C := Try.checked) (by kernel_rfl) started (by kernel_rfl) Try.func5
    (ChangeSpec.witness6 (enc := enc) (C := Try.checked) false ⟨#[], #[.agg (Array.replicate 32 (.int .u8 0)), .int .u64 0, .slice none 0 0, .slice none 0 0, .int .u8 0, .int .u8 0], []⟩ 8 (by kernel_rfl) (by kernel_rfl) (by kernel_rfl) (by kernel_rfl)) ?_
  intro W base args ds gs before hval hW _ _
  refine law_contract (C := C) (m := 6) mixed rfl own_ok (by kernel_rfl) rfl (fun ds hd => ?_) boxBack_law W base args ds gs before hval hW
  match ds, hd with
  | [_, _, _, _, _, _], _ => rfl
theorem boxBack_holds : Rows.BoxBackSaid :=
  OpenClaim.holds_of_wide 5 Try.f5 rfl rfl rfl rfl rfl rfl rfl ⟨rfl, rfl, rfl, rfl, rfl⟩ rfl rfl rfl rfl rfl (by kernel_rfl) Try.func5 (by kernel_rfl)
    (of_decide_eq_true (by kernel_rfl)) (by unfold Func.isWrapper; rw [if_neg (by decide +kernel)]; exact ⟨rfl, rfl⟩)
    (fun os started H enc _ => boxBack_lifted os started H enc)

end Go.Proofs.Ytdfkkfnjlcdjaaa
