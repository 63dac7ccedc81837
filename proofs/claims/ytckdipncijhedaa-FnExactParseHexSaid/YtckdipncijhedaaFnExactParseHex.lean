/- Proved: for every input that reads as data, laws.FnExactParseHex of the given program returns true and leaves its arguments as they read. No condition of its own. -/
import Derived.Test.YtckdipncijhedaaBase
import Derived.Test.YtckdipncijhedaaHexP
import Derived.Test.YtckdipncijhedaaToByte
import Derived.Test.YtckdipncijhedaaEqByte
import Derived.Test.YtckdipncijhedaaMarkByte
namespace Go.Proofs.Ytckdipncijhedaa
open Go.ChangeShapes Go.WideShapes Go.ChangeAt Go.RowKit
set_option linter.unusedVariables false

set_option maxRecDepth 100000 in
set_option maxHeartbeats 1000000 in
theorem fnExactParseHex_walk (s0 : ByteArray) (w : World) (w0 : s0.size ≤ maxLen) :
    Calls Try.prog 9 #[.string s0] w fun e w' => e = .returned (.bool true) ∧ Below w.heap.size w w' := by
  by_cases hn0 : s0.size ≤ 1048576
  rotate_left
  · have hb0 := w0; unfold maxLen at hb0
    go_enter Try.func9, Try.ntmps9
    go_wp2_with fail
    go_ret
    exact ⟨rfl, Below.refl _ _⟩
  have hb0 := w0; unfold maxLen at hb0
  have B : Below w.heap.size w w := Below.refl _ _
  go_enter Try.func9, Try.ntmps9
  go_wp2_with fail
  refine (S_ParseHex s0 _ (by omega)).mono ?_
  rintro e W1 ⟨A_1, n_1, c_1, rfl, o1, b1⟩
  replace B := bnext B b1
  have zs1 := b1.size
  have hn_1 : n_1 ≤ 200 := by have h1 := o1.rd.len; rw [bv_len] at h1; have h2 := parseL_le s0.data.toList; omega
  go_wp2_with fail
  refine (I_ParseHex s0 _ (by omega)).mono ?_
  rintro e W2 ⟨A_2, n_2, c_2, rfl, o2, b2⟩
  replace o1 := o1.below b2 (by omega)
  replace B := bnext B b2
  have zs2 := b2.size
  have hn_2 : n_2 ≤ 200 := by have h1 := o2.rd.len; rw [bv_len] at h1; have h2 := parseL_le s0.data.toList; omega
  go_wp2_with fail
  refine (L_eqByteS_same _ _ _ _ _ _ _ _ o2.rd o1.rd).mono ?_
  rintro e W3 ⟨rfl, b3⟩
  replace o1 := o1.below b3 (by omega)
  replace o2 := o2.below b3 (by omega)
  replace B := bnext B b3
  have zs3 := b3.size
  go_wp2_with fail
  refine (L_markByteS _ _ _ _ _ _ 1 _ o2 (by omega)).mono ?_
  rintro e W4 ⟨rfl, p2, g4⟩
  replace B := grown_next B o2 (by omega) g4
  replace o1 := o1.grown g4 o2.rng (by omega)
  clear o2; have o2 := p2; clear p2
  have zs4 := g4.size
  go_wp2_with fail
  refine (L_heldByteS _ _ _ 1 _ o2.rd (by omega)).mono ?_
  rintro e w_ ⟨rfl, rfl⟩
  go_wp2_with fail
  refine (I_ParseHex s0 _ (by omega)).mono ?_
  rintro e W5 ⟨A_3, n_3, c_3, rfl, o3, b5⟩
  replace o1 := o1.below b5 (by omega)
  replace o2 := o2.below b5 (by omega)
  replace B := bnext B b5
  have zs5 := b5.size
  have hn_3 : n_3 ≤ 200 := by have h1 := o3.rd.len; rw [bv_len] at h1; have h2 := parseL_le s0.data.toList; omega
  go_wp2_with fail
  refine (L_eqByteS_same _ _ _ _ _ _ _ _ o3.rd o1.rd).mono ?_
  rintro e W6 ⟨rfl, b6⟩
  replace o1 := o1.below b6 (by omega)
  replace o2 := o2.below b6 (by omega)
  replace o3 := o3.below b6 (by omega)
  replace B := bnext B b6
  have zs6 := b6.size
  go_wp2_with fail
  refine (L_heldByteS _ _ _ 1 _ o2.rd (by omega)).mono ?_
  rintro e w_ ⟨rfl, rfl⟩
  go_wp2_with fail
  go_ret
  exact ⟨rfl, B⟩

set_option maxRecDepth 100000 in
theorem fnExactParseHex_lifted (os : Os) (started : os.Started) (H : Type) (enc : TypeId × Value → H) :
    ReturnsInHanded {} Try.checked os 9 .any (Rows.fnExactParseHexSpec.pre6 enc Try.prog Try.f9 Rows.fnExactParseHexRow.domain false) (Rows.fnExactParseHexSpec.post enc Try.prog Try.f9 false true false false) := by
  refine returnsInHanded_of_change (C := Try.checked) own started (by kernel_rfl) Try.func9
    (ChangeSpec.witness6 (enc := enc) (C := Try.checked) false ⟨#[], #[.string ByteArray.empty], []⟩ 8 (by kernel_rfl) (by kernel_rfl) (by kernel_rfl) (by kernel_rfl)) ?_
  intro W base args ds gs before hval0 hW hcnd _
  have hval : ∀ (j : Nat) t v, Try.f9.params[j]? = some t → args[j]? = some v → Value.okWide Try.prog W .any base t v := hval0
  have hW' := hW
  obtain ⟨p, q, hA0, hV, rfl, hfz, hnd⟩ := hW
  have hA : DataW.TrodAll enc Try.prog W 0 (fun _ => true) true Try.f9.params.toList args.toList ds p := hA0
  rw [Try.params9] at hA hval
  obtain ⟨v0, vs0, d0, ds0, p0, q0, hargs, rfl, rfl, h0, r0⟩ := trodAll_cons hA
  obtain ⟨rfl, rfl, rfl⟩ := trodAll_nil r0
  obtain rfl : args = #[v0] := by cases args; simp_all
  obtain ⟨rfl, rfl⟩ := trodVars_none hV
  obtain ⟨s0, rfl, rfl, rfl, w0⟩ := Go.ChangeMaps.open_string Try.underlying9 (hval 0 9 v0 rfl rfl) h0
  clear hA0 hval0
  refine (fnExactParseHex_walk s0 W w0).mono fun e W' ⟨he, bel⟩ => ?_
  subst he
  exact ⟨_, rfl, _, _, _, [], _, [], hW', trodAll_mk1 (shut_bool Try.underlying4 _), (trodAll_cons_mk (Go.ChangeMaps.shut_string Try.underlying9 w0) trodAll_mk0), rfl, bel.frame _, fun h => by cases h⟩

theorem fnExactParseHex_over : Rows.fnExactParseHexRow.holds Try.pinned (OpenSpec.ofChange Rows.fnExactParseHexSpec) :=
  OpenClaim.holds_of_wide 9 Try.f9 rfl rfl rfl rfl rfl rfl rfl ⟨rfl, rfl, rfl, rfl, rfl⟩ rfl rfl rfl rfl rfl (by kernel_rfl) Try.func9 (by kernel_rfl)
    (of_decide_eq_true (by kernel_rfl)) (by unfold Func.isWrapper; first | (rw [if_pos (by decide +kernel)]; kernel_rfl) | (rw [if_neg (by decide +kernel)]; exact ⟨rfl, rfl⟩))
    (fun os started H enc _ => fnExactParseHex_lifted os started H enc)

/-- The statement. -/
theorem fnExactParseHex_proved : Rows.FnExactParseHexSaid := fnExactParseHex_over
#print axioms fnExactParseHex_proved
end Go.Proofs.Ytckdipncijhedaa
