/- Proved: for every input that reads as data, laws.FnExactHashNew of the given program returns true and leaves its arguments as they read. No condition of its own. -/
import Derived.Test.YtckdipncijhedaaBase
import Derived.Test.YtckdipncijhedaaHash
namespace Go.Proofs.Ytckdipncijhedaa
open Go.ChangeShapes Go.WideShapes Go.ChangeAt Go.RowKit
set_option linter.unusedVariables false

set_option maxRecDepth 100000 in
set_option maxHeartbeats 2000000 in
theorem fnExactHashNew_walk  (w : World)  :
    Calls Try.prog 13 #[] w fun e w' => e = .returned (.bool true) ∧ Below w.heap.size w w' := by
  have B : Below w.heap.size w w := Below.refl _ _
  go_enter Try.func13, Try.ntmps13
  go_wp2_with fail
  refine (S_HashNew _).mono ?_
  rintro e W1 ⟨A_1, n_1, c_1, B_1, m_1, d_1, rfl, o1, b1⟩
  have s1 := b1.size
  replace B := bnext B b1
  have hn_1 : n_1 ≤ 1048576 := by have h1 := o1.ints.rd.len; rw [iv_len] at h1; have h2 : startL.length = 8 := rfl; omega
  have hm_1 : m_1 ≤ 1048576 := by have h1 := o1.bytes.rd.len; rw [bv_len] at h1; simp at h1; omega
  obtain ⟨W2, hW2⟩ : ∃ V, V = W1.alloc (.cells #[.slice A_1 n_1 c_1, .slice B_1 m_1 d_1, .int .i64 0] 53) := ⟨_, rfl⟩
  have b2 : Below W1.heap.size W1 W2 := by rw [hW2]; exact (Below.refl _ _).alloc (Nat.le_refl _) _
  have z2 : W1.heap.size < W2.heap.size := by rw [hW2]; simp
  have X2 : Bx W2 W1.heap.size (.slice A_1 n_1 c_1) (.slice B_1 m_1 d_1) (.int .i64 0) := by rw [hW2]; exact Bx.new _ _ _ _ _
  have HW2 := Lib.hid hW2; clear hW2
  replace o1 := o1.below b2 (by omega)
  replace B := bnext B b2
  go_wp2_with fail
  rw [← HW2.out]
  clear HW2
  refine (I_HashNew _).mono ?_
  rintro e W3 ⟨A_3, n_3, c_3, B_3, m_3, d_3, rfl, o3, b3⟩
  have s3 := b3.size
  replace o1 := o1.below b3 (by omega)
  replace X2 := X2.below b3 (by omega)
  replace B := bnext B b3
  have hn_3 : n_3 ≤ 1048576 := by have h1 := o3.ints.rd.len; rw [iv_len] at h1; have h2 : startL.length = 8 := rfl; omega
  have hm_3 : m_3 ≤ 1048576 := by have h1 := o3.bytes.rd.len; rw [bv_len] at h1; simp at h1; omega
  obtain ⟨xa2, xb2, xc2⟩ := id X2
  have y4_2 : W1.heap.size < W3.heap.size := by omega
  obtain ⟨W4, hW4⟩ : ∃ V, V = W3.alloc (.cells #[.slice A_3 n_3 c_3, .slice B_3 m_3 d_3, .int .i64 0] 53) := ⟨_, rfl⟩
  have b4 : Below W3.heap.size W3 W4 := by rw [hW4]; exact (Below.refl _ _).alloc (Nat.le_refl _) _
  have z4 : W3.heap.size < W4.heap.size := by rw [hW4]; simp
  have X4 : Bx W4 W3.heap.size (.slice A_3 n_3 c_3) (.slice B_3 m_3 d_3) (.int .i64 0) := by rw [hW4]; exact Bx.new _ _ _ _ _
  have HW4 := Lib.hid hW4; clear hW4
  replace o1 := o1.below b4 (by omega)
  replace o3 := o3.below b4 (by omega)
  replace X2 := X2.below b4 (by omega)
  replace B := bnext B b4
  go_wp2_with fail
  rw [← HW4.out]
  clear HW4
  clear xa2 xb2 xc2 y4_2
  refine (L_eqHash_same _ _ _ _ _ _ _ _ _ _ _ _ _ _ _ _ o3.ints.rd o3.bytes.rd o1.ints.rd o1.bytes.rd).mono ?_
  rintro e W5 ⟨rfl, b5⟩
  have s5 := b5.size
  replace o1 := o1.below b5 (by omega)
  replace o3 := o3.below b5 (by omega)
  replace X2 := X2.below b5 (by omega)
  replace X4 := X4.below b5 (by omega)
  replace B := bnext B b5
  obtain ⟨xa2, xb2, xc2⟩ := id X2
  obtain ⟨xa4, xb4, xc4⟩ := id X4
  go_wp2_with fail
  clear xa2 xb2 xc2 xa4 xb4 xc4
  refine (L_markHash _ _ _ _ _ _ _ _ _ _ _ 1 _ o3 (by omega) (by omega)).mono ?_
  rintro e W6 ⟨rfl, p3, g6⟩
  replace B := grown2_next B g6 o3.rng (by omega)
  replace o1 := o1.grown2 g6 o3.rng (by omega)
  replace X2 := X2.grown2 g6 o3.rng (by omega)
  replace X4 := X4.grown2 g6 o3.rng (by omega)
  clear o3; have o3 := p3; clear p3; have s6 := g6.size
  obtain ⟨xa2, xb2, xc2⟩ := id X2
  obtain ⟨xa4, xb4, xc4⟩ := id X4
  go_wp2_with fail
  clear xa2 xb2 xc2 xa4 xb4 xc4
  refine (L_heldHash _ _ _ _ _ _ _ 1 _ o3.ints.rd o3.bytes.rd (by omega)).mono ?_
  rintro e W7 ⟨rfl, b7⟩
  have s7 := b7.size
  replace o1 := o1.below b7 (by omega)
  replace o3 := o3.below b7 (by omega)
  replace X2 := X2.below b7 (by omega)
  replace X4 := X4.below b7 (by omega)
  replace B := bnext B b7
  obtain ⟨xa2, xb2, xc2⟩ := id X2
  obtain ⟨xa4, xb4, xc4⟩ := id X4
  go_wp2_with fail
  clear xa2 xb2 xc2 xa4 xb4 xc4
  refine (I_HashNew _).mono ?_
  rintro e W8 ⟨A_8, n_8, c_8, B_8, m_8, d_8, rfl, o8, b8⟩
  have s8 := b8.size
  replace o1 := o1.below b8 (by omega)
  replace o3 := o3.below b8 (by omega)
  replace X2 := X2.below b8 (by omega)
  replace X4 := X4.below b8 (by omega)
  replace B := bnext B b8
  have hn_8 : n_8 ≤ 1048576 := by have h1 := o8.ints.rd.len; rw [iv_len] at h1; have h2 : startL.length = 8 := rfl; omega
  have hm_8 : m_8 ≤ 1048576 := by have h1 := o8.bytes.rd.len; rw [bv_len] at h1; simp at h1; omega
  obtain ⟨xa2, xb2, xc2⟩ := id X2
  obtain ⟨xa4, xb4, xc4⟩ := id X4
  have y9_2 : W1.heap.size < W8.heap.size := by omega
  have y9_4 : W3.heap.size < W8.heap.size := by omega
  obtain ⟨W9, hW9⟩ : ∃ V, V = W8.alloc (.cells #[.slice A_8 n_8 c_8, .slice B_8 m_8 d_8, .int .i64 0] 53) := ⟨_, rfl⟩
  have b9 : Below W8.heap.size W8 W9 := by rw [hW9]; exact (Below.refl _ _).alloc (Nat.le_refl _) _
  have z9 : W8.heap.size < W9.heap.size := by rw [hW9]; simp
  have X9 : Bx W9 W8.heap.size (.slice A_8 n_8 c_8) (.slice B_8 m_8 d_8) (.int .i64 0) := by rw [hW9]; exact Bx.new _ _ _ _ _
  have HW9 := Lib.hid hW9; clear hW9
  replace o1 := o1.below b9 (by omega)
  replace o3 := o3.below b9 (by omega)
  replace o8 := o8.below b9 (by omega)
  replace X2 := X2.below b9 (by omega)
  replace X4 := X4.below b9 (by omega)
  replace B := bnext B b9
  go_wp2_with fail
  rw [← HW9.out]
  clear HW9
  clear xa2 xb2 xc2 xa4 xb4 xc4 y9_2 y9_4
  refine (L_eqHash_same _ _ _ _ _ _ _ _ _ _ _ _ _ _ _ _ o8.ints.rd o8.bytes.rd o1.ints.rd o1.bytes.rd).mono ?_
  rintro e W10 ⟨rfl, b10⟩
  have s10 := b10.size
  replace o1 := o1.below b10 (by omega)
  replace o3 := o3.below b10 (by omega)
  replace o8 := o8.below b10 (by omega)
  replace X2 := X2.below b10 (by omega)
  replace X4 := X4.below b10 (by omega)
  replace X9 := X9.below b10 (by omega)
  replace B := bnext B b10
  obtain ⟨xa2, xb2, xc2⟩ := id X2
  obtain ⟨xa4, xb4, xc4⟩ := id X4
  obtain ⟨xa9, xb9, xc9⟩ := id X9
  go_wp2_with fail
  clear xa2 xb2 xc2 xa4 xb4 xc4 xa9 xb9 xc9
  refine (L_heldHash _ _ _ _ _ _ _ 1 _ o3.ints.rd o3.bytes.rd (by omega)).mono ?_
  rintro e W11 ⟨rfl, b11⟩
  have s11 := b11.size
  replace o1 := o1.below b11 (by omega)
  replace o3 := o3.below b11 (by omega)
  replace o8 := o8.below b11 (by omega)
  replace X2 := X2.below b11 (by omega)
  replace X4 := X4.below b11 (by omega)
  replace X9 := X9.below b11 (by omega)
  replace B := bnext B b11
  obtain ⟨xa2, xb2, xc2⟩ := id X2
  obtain ⟨xa4, xb4, xc4⟩ := id X4
  obtain ⟨xa9, xb9, xc9⟩ := id X9
  go_wp2_with fail
  clear xa2 xb2 xc2 xa4 xb4 xc4 xa9 xb9 xc9
  go_ret
  exact ⟨rfl, B⟩

set_option maxRecDepth 100000 in
theorem fnExactHashNew_lifted (os : Os) (started : os.Started) (H : Type) (enc : TypeId × Value → H) :
    ReturnsInHanded {} Try.checked os 13 .any (Rows.fnExactHashNewSpec.pre6 enc Try.prog Try.f13 Rows.fnExactHashNewRow.domain false) (Rows.fnExactHashNewSpec.post enc Try.prog Try.f13 false true false false) := by
  refine returnsInHanded_of_change (C := Try.checked) own started (by kernel_rfl) Try.func13
    (ChangeSpec.witness6 (enc := enc) (C := Try.checked) false ⟨#[], #[], []⟩ 8 (by kernel_rfl) (by kernel_rfl) (by kernel_rfl) (by kernel_rfl)) ?_
  intro W base args ds gs before hval0 hW hcnd _
  have hval : ∀ (j : Nat) t v, Try.f13.params[j]? = some t → args[j]? = some v → Value.okWide Try.prog W .any base t v := hval0
  have hW' := hW
  obtain ⟨p, q, hA0, hV, rfl, hfz, hnd⟩ := hW
  have hA : DataW.TrodAll enc Try.prog W 0 (fun _ => true) true Try.f13.params.toList args.toList ds p := hA0
  rw [Try.params13] at hA hval
  obtain ⟨rfl, rfl, rfl⟩ := trodAll_none hA
  obtain ⟨rfl, rfl⟩ := trodVars_none hV
  clear hA0 hval0
  refine (fnExactHashNew_walk  W ).mono fun e W' ⟨he, bel⟩ => ?_
  subst he
  exact ⟨_, rfl, _, _, _, [], _, [], hW', trodAll_mk1 (shut_bool Try.underlying4 _), trodAll_mk0, rfl, bel.frame _, fun h => by cases h⟩

theorem fnExactHashNew_over : Rows.fnExactHashNewRow.holds Try.pinned (OpenSpec.ofChange Rows.fnExactHashNewSpec) :=
  OpenClaim.holds_of_wide 13 Try.f13 rfl rfl rfl rfl rfl rfl rfl ⟨rfl, rfl, rfl, rfl, rfl⟩ rfl rfl rfl rfl rfl (by kernel_rfl) Try.func13 (by kernel_rfl)
    (of_decide_eq_true (by kernel_rfl)) (by unfold Func.isWrapper; first | (rw [if_pos (by decide +kernel)]; kernel_rfl) | (rw [if_neg (by decide +kernel)]; exact ⟨rfl, rfl⟩))
    (fun os started H enc _ => fnExactHashNew_lifted os started H enc)

/-- The statement. -/
theorem fnExactHashNew_proved : Rows.FnExactHashNewSaid := fnExactHashNew_over
#print axioms fnExactHashNew_proved
end Go.Proofs.Ytckdipncijhedaa
