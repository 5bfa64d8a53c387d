import Derived.Test.YtccfjidpdlfenaaDoorTKeys
import Derived.Test.YtccfjidpdlfenaaDoorBr4
import Derived.Test.YtccfjidpdlfenaaDoorRows
import Derived.LaidMore
import Derived.OpenShut
import Derived.Stop.Joined
import Derived.MakeChecks
namespace Go.Proofs.YtccfjidpdlfenaaDoor
open Go.Am
open Go.ChangeShapes Go.WideShapes Go.ChangeAt Go.RowKit
set_option linter.unusedSimpArgs false
set_option linter.unusedVariables false
set_option maxRecDepth 100000

theorem bytes_of {es : List (List AVal)} (h : ∀ r ∈ es, Shs [.i .u8] r) : ∃ l : List UInt8, es = l.map byteRow := by
  obtain ⟨l, h1, _⟩ := rows_map byteRow (fun _ => True) (fun r hr => by
    have := h r hr
    simp only [Shs, Sh] at this
    obtain ⟨_, _, rfl, ⟨z, rfl, hz⟩, rfl⟩ := this
    have hz := wf_u8 hz
    exact ⟨UInt8.ofNat z.toNat, by simp [byteRow]; omega, trivial⟩)
  exact ⟨l, h1⟩

theorem en_of {n : List UInt8} {i : Nat} {f u x : Int} {t : List UInt8} (hi : i ≤ 18446744073709551615) (hf : -9223372036854775808 ≤ f ∧ f ≤ 9223372036854775807) (hu : -9223372036854775808 ≤ u ∧ u ≤ 9223372036854775807) (hx : -9223372036854775808 ≤ x ∧ x ≤ 9223372036854775807) : (⟨n, i, f, u, x, t⟩ : En).ok := ⟨hi, hf.1, hf.2, hu.1, hu.2, hx.1, hx.2⟩

theorem keysRoots_law (ds : List AVal) (h : TAs C.E.P Tryd.f4.params.toList ds) : fn C 4 [] ds = some (.bool true, []) := by
  have h := TAs_sh h (show argShT C.E.P 6 Tryd.f4.params.toList = some [(false, [.s]), (false, [.i .u64]), (false, [.i .u64]), (true, [.s, .i .u64, .i .i64, .i .i64, .i .i64, .s]), (true, [.s, .i .u64, .i .i64, .i .i64, .i .i64, .s]), (false, [.i .i64])] by kernel_rfl)
  simp only [ArgSh_one, ArgSh_agg, ArgSh_nil, Sh, Shs] at h
  obtain ⟨_, _, rfl, ⟨psk, rfl, hp⟩, _, _, rfl, ⟨m, rfl, hm⟩, _, _, rfl, ⟨n, rfl, hn⟩, _, _, rfl, ha, _, _, rfl, hb, _, _, rfl, ⟨k, rfl, hk⟩, rfl⟩ := h
  obtain ⟨_, _, rfl, ⟨an, rfl, han⟩, _, _, rfl, ⟨ai, rfl, hai⟩, _, _, rfl, ⟨af, rfl, haf⟩, _, _, rfl, ⟨au, rfl, hau⟩, _, _, rfl, ⟨ax, rfl, hax⟩, _, _, rfl, ⟨at', rfl, hat⟩, rfl⟩ := ha
  obtain ⟨_, _, rfl, ⟨bn, rfl, hbn⟩, _, _, rfl, ⟨bi, rfl, hbi⟩, _, _, rfl, ⟨bf, rfl, hbf⟩, _, _, rfl, ⟨bu, rfl, hbu⟩, _, _, rfl, ⟨bx, rfl, hbx⟩, _, _, rfl, ⟨bt, rfl, hbt⟩, rfl⟩ := hb
  have hm := wf_u64 hm
  have hn := wf_u64 hn
  have hai := wf_u64 hai
  have hbi := wf_u64 hbi
  have hk := wf_i64 hk
  obtain ⟨m, rfl⟩ := Int.eq_ofNat_of_zero_le hm.1
  obtain ⟨n, rfl⟩ := Int.eq_ofNat_of_zero_le hn.1
  obtain ⟨ai, rfl⟩ := Int.eq_ofNat_of_zero_le hai.1
  obtain ⟨bi, rfl⟩ := Int.eq_ofNat_of_zero_le hbi.1
  exact e4 psk m n ⟨an, ai, af, au, ax, at'⟩ ⟨bn, bi, bf, bu, bx, bt⟩ k (by omega) (by omega) (en_of (by omega) (wf_i64 haf) (wf_i64 hau) (wf_i64 hax)) (en_of (by omega) (wf_i64 hbf) (wf_i64 hbu) (wf_i64 hbx)) (by omega) (by omega) hp han hat hbn hbt
theorem keysMine_law (ds : List AVal) (h : TAs C.E.P Tryd.f5.params.toList ds) : fn C 5 [] ds = some (.bool true, []) := by
  have h := TAs_sh h (show argShT C.E.P 6 Tryd.f5.params.toList = some [(false, [.s]), (false, [.i .u64]), (false, [.i .u64]), (true, [.s, .i .u64, .i .i64, .i .i64, .i .i64, .s]), (true, [.s, .i .u64, .i .i64, .i .i64, .i .i64, .s]), (false, [.i .i64])] by kernel_rfl)
  simp only [ArgSh_one, ArgSh_agg, ArgSh_nil, Sh, Shs] at h
  obtain ⟨_, _, rfl, ⟨psk, rfl, hp⟩, _, _, rfl, ⟨m, rfl, hm⟩, _, _, rfl, ⟨n, rfl, hn⟩, _, _, rfl, ha, _, _, rfl, hb, _, _, rfl, ⟨k, rfl, hk⟩, rfl⟩ := h
  obtain ⟨_, _, rfl, ⟨an, rfl, han⟩, _, _, rfl, ⟨ai, rfl, hai⟩, _, _, rfl, ⟨af, rfl, haf⟩, _, _, rfl, ⟨au, rfl, hau⟩, _, _, rfl, ⟨ax, rfl, hax⟩, _, _, rfl, ⟨at', rfl, hat⟩, rfl⟩ := ha
  obtain ⟨_, _, rfl, ⟨bn, rfl, hbn⟩, _, _, rfl, ⟨bi, rfl, hbi⟩, _, _, rfl, ⟨bf, rfl, hbf⟩, _, _, rfl, ⟨bu, rfl, hbu⟩, _, _, rfl, ⟨bx, rfl, hbx⟩, _, _, rfl, ⟨bt, rfl, hbt⟩, rfl⟩ := hb
  have hm := wf_u64 hm
  have hn := wf_u64 hn
  have hai := wf_u64 hai
  have hbi := wf_u64 hbi
  have hk := wf_i64 hk
  obtain ⟨m, rfl⟩ := Int.eq_ofNat_of_zero_le hm.1
  obtain ⟨n, rfl⟩ := Int.eq_ofNat_of_zero_le hn.1
  obtain ⟨ai, rfl⟩ := Int.eq_ofNat_of_zero_le hai.1
  obtain ⟨bi, rfl⟩ := Int.eq_ofNat_of_zero_le hbi.1
  exact e5 psk m n ⟨an, ai, af, au, ax, at'⟩ ⟨bn, bi, bf, bu, bx, bt⟩ k (by omega) (by omega) (en_of (by omega) (wf_i64 haf) (wf_i64 hau) (wf_i64 hax)) (en_of (by omega) (wf_i64 hbf) (wf_i64 hbu) (wf_i64 hbx)) (by omega) (by omega) hp han hat hbn hbt

abbrev laidT : List (String × DataW Unit) := [("math/bits.deBruijn32tab", Rows.laid_math_bits_deBruijn32tab), ("math/bits.deBruijn64tab", Rows.laid_math_bits_deBruijn64tab), ("internal/strconv.uint64pow10", Rows.laid_internal_strconv_uint64pow10), ("carcanet/digest.constants", Rows.laid_carcanet_digest_constants)]
theorem door_met (os : Os) (args : Array Value) : laidMetH Tryd.prog laidT ((World.doorLaid Tryd.prog 29 os).forCall (fun _ _ => 0) ⟨#[], args, []⟩).memory :=
  laidMetH_of_parts3 (fuel := 8) (laidMet_of_run' 8 (by kernel_rfl) (by kernel_rfl)) (by kernel_rfl) (by kernel_rfl)
theorem globT {W : World} (h : laidMetH Tryd.prog laidT W) : GlobOk C.E.Γ (fun b => b < W.heap.size) W := by
  rw [MakeChecks.laidMetH_plain _ _ _ (by kernel_rfl)] at h
  refine globOk_tabs (P := Tryd.prog) (ts := tabs) ?_ ?_
  · intro t ht
    simp only [tabs, List.mem_cons, List.not_mem_nil, or_false] at ht
    rcases ht with rfl | rfl | rfl | rfl <;> kernel_rfl
  · intro t ht
    simp only [tabs, List.mem_cons, List.not_mem_nil, or_false] at ht
    rcases ht with rfl | rfl | rfl | rfl
    · exact tabIs_of_reads (g := 2) (t := 181) (e := 5) (n := 32) (by kernel_rfl) (by kernel_rfl) (by kernel_rfl) (by kernel_rfl) (by kernel_rfl) (by kernel_rfl) (Lib.laidMet.reads h (.head _))
    · exact tabIs_of_reads (g := 3) (t := 136) (e := 5) (n := 64) (by kernel_rfl) (by kernel_rfl) (by kernel_rfl) (by kernel_rfl) (by kernel_rfl) (by kernel_rfl) (Lib.laidMet.reads h (.tail _ (.head _)))
    · exact tabIs_of_reads (g := 1) (t := 174) (e := 23) (n := 20) (by kernel_rfl) (by kernel_rfl) (by kernel_rfl) (by kernel_rfl) (by kernel_rfl) (by kernel_rfl) (Lib.laidMet.reads h (.tail _ (.tail _ (.head _))))
    · exact tabIs_of_reads (g := 0) (t := 159) (e := 116) (n := 64) (by kernel_rfl) (by kernel_rfl) (by kernel_rfl) (by kernel_rfl) (by kernel_rfl) (by kernel_rfl) (Lib.laidMet.reads h (.tail _ (.tail _ (.tail _ (.head _)))))

theorem keysRoots_lifted (os : Os) (started : os.Started) (H : Type) (enc : TypeId × Value → H) :
    ReturnsInHanded {} Tryd.checked os 4 .any (fun w args => (Rows.keysRootsSpec.pre enc Tryd.prog Tryd.f4 [] false w args ∧ laidMetH Tryd.prog laidT w) ∧ sizedMet enc Tryd.prog Tryd.f4 (OpenSpec.ofChange Rows.keysRootsSpec) false w args) (Rows.keysRootsSpec.post enc Tryd.prog Tryd.f4 Rows.keysRootsRow.apart Rows.keysRootsRow.fresh Rows.keysRootsRow.handsOn Rows.keysRootsRow.again) := by
  refine returnsInHanded_of_change_and (C := Tryd.checked) (X := fun w _ => laidMetH Tryd.prog laidT w) (fun _ _ _ hh h => h.of_heap hh) (by kernel_rfl) started (by kernel_rfl) Tryd.func4
    (ChangeSpec.witness_shaped (enc := enc) (C := Tryd.checked) (os := os) (X := fun w _ => laidMetH Tryd.prog laidT w) false (World.doorLaid Tryd.prog 29 os) #[.string ⟨#[]⟩, .int .u64 0, .int .u64 0, .agg #[.string ⟨#[]⟩, .int .u64 0, .int .i64 0, .int .i64 0, .int .i64 0, .string ⟨#[]⟩], .agg #[.string ⟨#[]⟩, .int .u64 0, .int .i64 0, .int .i64 0, .int .i64 0, .string ⟨#[]⟩], .int .i64 0] 8 rfl (World.shaped_of_RefB (by kernel_rfl) (by kernel_rfl)) (by kernel_rfl) (by kernel_rfl) (by kernel_rfl) (door_met os _)) ?_
  intro W base args ds gs before hval hW _ _ hL _
  refine law_contractG (C := C) (m := 6) mixed own_ok (by kernel_rfl) rfl (fun ds hd => ?_) keysRoots_law W (globT hL) base args ds gs before hval hW
  match ds, hd with
  | [_, _, _, _, _, _], _ => rfl
theorem keysRoots_holds : Rows.KeysRootsSaid :=
  OpenClaim.holds_of_wide 4 Tryd.f4 rfl rfl rfl rfl rfl rfl rfl ⟨rfl, rfl, rfl, rfl, rfl⟩ rfl rfl rfl rfl rfl (by kernel_rfl) Tryd.func4 (by kernel_rfl)
    (of_decide_eq_true (by kernel_rfl)) (by unfold Func.isWrapper; rw [if_neg (by decide +kernel)]; exact ⟨rfl, rfl⟩)
    (fun os started H enc _ => keysRoots_lifted os started H enc)

theorem keysMine_lifted (os : Os) (started : os.Started) (H : Type) (enc : TypeId × Value → H) :
    ReturnsInHanded {} Tryd.checked os 5 .any (fun w args => (Rows.keysMineSpec.pre enc Tryd.prog Tryd.f5 [] false w args ∧ laidMetH Tryd.prog laidT w) ∧ sizedMet enc Tryd.prog Tryd.f5 (OpenSpec.ofChange Rows.keysMineSpec) false w args) (Rows.keysMineSpec.post enc Tryd.prog Tryd.f5 Rows.keysMineRow.apart Rows.keysMineRow.fresh Rows.keysMineRow.handsOn Rows.keysMineRow.again) := by
  refine returnsInHanded_of_change_and (C := Tryd.checked) (X := fun w _ => laidMetH Tryd.prog laidT w) (fun _ _ _ hh h => h.of_heap hh) (by kernel_rfl) started (by kernel_rfl) Tryd.func5
    (ChangeSpec.witness_shaped (enc := enc) (C := Tryd.checked) (os := os) (X := fun w _ => laidMetH Tryd.prog laidT w) false (World.doorLaid Tryd.prog 29 os) #[.string ⟨#[]⟩, .int .u64 0, .int .u64 0, .agg #[.string ⟨#[]⟩, .int .u64 0, .int .i64 0, .int .i64 0, .int .i64 0, .string ⟨#[]⟩], .agg #[.string ⟨#[]⟩, .int .u64 0, .int .i64 0, .int .i64 0, .int .i64 0, .string ⟨#[]⟩], .int .i64 0] 8 rfl (World.shaped_of_RefB (by kernel_rfl) (by kernel_rfl)) (by kernel_rfl) (by kernel_rfl) (by kernel_rfl) (door_met os _)) ?_
  intro W base args ds gs before hval hW _ _ hL _
  refine law_contractG (C := C) (m := 6) mixed own_ok (by kernel_rfl) rfl (fun ds hd => ?_) keysMine_law W (globT hL) base args ds gs before hval hW
  match ds, hd with
  | [_, _, _, _, _, _], _ => rfl
theorem keysMine_holds : Rows.KeysMineSaid :=
  OpenClaim.holds_of_wide 5 Tryd.f5 rfl rfl rfl rfl rfl rfl rfl ⟨rfl, rfl, rfl, rfl, rfl⟩ rfl rfl rfl rfl rfl (by kernel_rfl) Tryd.func5 (by kernel_rfl)
    (of_decide_eq_true (by kernel_rfl)) (by unfold Func.isWrapper; rw [if_neg (by decide +kernel)]; exact ⟨rfl, rfl⟩)
    (fun os started H enc _ => keysMine_lifted os started H enc)

end Go.Proofs.YtccfjidpdlfenaaDoor
