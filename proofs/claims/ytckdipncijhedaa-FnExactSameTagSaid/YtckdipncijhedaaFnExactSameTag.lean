/- Proved: for every input that reads as data, laws.FnExactSameTag of the given program returns true and leaves its arguments as they read. No condition of its own. -/
import Derived.Test.YtckdipncijhedaaBase
import Derived.Test.YtckdipncijhedaaSameTag
import Derived.Test.YtckdipncijhedaaToByte
import Derived.Test.YtckdipncijhedaaEqByte
namespace Go.Proofs.Ytckdipncijhedaa
open Go.ChangeShapes Go.WideShapes Go.ChangeAt Go.RowKit
set_option linter.unusedVariables false

set_option maxRecDepth 100000 in
set_option maxHeartbeats 1000000 in
theorem fnExactSameTag_walk (A0 : Option Addr) (n0 c0 : Nat) (l0 : List UInt8) (A1 : Option Addr) (n1 c1 : Nat) (l1 : List UInt8) (w : World) (w0 : Rd w A0 n0 c0 (bv l0)) (w1 : Rd w A1 n1 c1 (bv l1)) :
    Calls Try.prog 3 #[.slice A0 n0 c0, .slice A1 n1 c1] w fun e w' => e = .returned (.bool true) ∧ Below w.heap.size w w' := by
  by_cases hn0 : n0 ≤ 1048576
  rotate_left
  · have hb0 := w0.bnd
    go_enter Try.func3, Try.ntmps3
    go_wp2_with fail
    go_ret
    exact ⟨rfl, Below.refl _ _⟩
  by_cases hn1 : n1 ≤ 1048576
  rotate_left
  · have hb1 := w1.bnd
    go_enter Try.func3, Try.ntmps3
    go_wp2_with fail
    go_ret
    exact ⟨rfl, Below.refl _ _⟩
  have hb0 := w0.bnd
  have hb1 := w1.bnd
  have B : Below w.heap.size w w := Below.refl _ _
  go_enter Try.func3, Try.ntmps3
  go_wp2_with fail
  refine (L_toByteS _ _ _ l0 _ (w0.below B (Nat.le_refl _)) hn0).mono ?_
  rintro e W1 ⟨A_1, n_1, c_1, rfl, o1, b1⟩
  replace B := bnext B b1
  have s1 := b1.size
  have hn_1 : n_1 ≤ 1048576 := by have h1 := o1.rd.len; rw [bv_len] at h1; have h2 := w0.len; rw [bv_len] at h2; omega
  go_wp2_with fail
  refine (L_toByteS _ _ _ l1 _ (w1.below B (Nat.le_refl _)) hn1).mono ?_
  rintro e W2 ⟨A_2, n_2, c_2, rfl, o2, b2⟩
  replace o1 := o1.below b2 (by omega)
  replace B := bnext B b2
  have s2 := b2.size
  have hn_2 : n_2 ≤ 1048576 := by have h1 := o2.rd.len; rw [bv_len] at h1; have h2 := w1.len; rw [bv_len] at h2; omega
  go_wp2_with fail
  refine (below_of (S_SameTag _ _ _ _ _ _ l0 l1 _ o1.rd o2.rd)).mono ?_
  rintro e W3 ⟨rfl, b3⟩
  replace o1 := o1.below b3 (by omega)
  replace o2 := o2.below b3 (by omega)
  replace B := bnext B b3
  have s3 := b3.size
  clear o1
  clear o2
  go_wp2_with fail
  refine (L_toByteS _ _ _ l0 _ (w0.below B (Nat.le_refl _)) hn0).mono ?_
  rintro e W4 ⟨A_3, n_3, c_3, rfl, o3, b4⟩
  replace B := bnext B b4
  have s4 := b4.size
  have hn_3 : n_3 ≤ 1048576 := by have h1 := o3.rd.len; rw [bv_len] at h1; have h2 := w0.len; rw [bv_len] at h2; omega
  go_wp2_with fail
  refine (L_toByteS _ _ _ l1 _ (w1.below B (Nat.le_refl _)) hn1).mono ?_
  rintro e W5 ⟨A_4, n_4, c_4, rfl, o4, b5⟩
  replace o3 := o3.below b5 (by omega)
  replace B := bnext B b5
  have s5 := b5.size
  have hn_4 : n_4 ≤ 1048576 := by have h1 := o4.rd.len; rw [bv_len] at h1; have h2 := w1.len; rw [bv_len] at h2; omega
  go_wp2_with fail
  refine (below_of (I_SameTag _ _ _ _ _ _ l0 l1 _ o3.rd o4.rd)).mono ?_
  rintro e W6 ⟨rfl, b6⟩
  replace o3 := o3.below b6 (by omega)
  replace o4 := o4.below b6 (by omega)
  replace B := bnext B b6
  have s6 := b6.size
  go_wp2_with fail
  refine (L_toByteS _ _ _ l0 _ (w0.below B (Nat.le_refl _)) hn0).mono ?_
  rintro e W7 ⟨A_5, n_5, c_5, rfl, o5, b7⟩
  replace o3 := o3.below b7 (by omega)
  replace o4 := o4.below b7 (by omega)
  replace B := bnext B b7
  have s7 := b7.size
  have hn_5 : n_5 ≤ 1048576 := by have h1 := o5.rd.len; rw [bv_len] at h1; have h2 := w0.len; rw [bv_len] at h2; omega
  go_wp2_with fail
  refine (L_eqByteS_same _ _ _ _ _ _ l0 _ o3.rd o5.rd).mono ?_
  rintro e W8 ⟨rfl, b8⟩
  replace o3 := o3.below b8 (by omega)
  replace o4 := o4.below b8 (by omega)
  replace o5 := o5.below b8 (by omega)
  replace B := bnext B b8
  have s8 := b8.size
  clear o5
  go_wp2_with fail
  refine (L_toByteS _ _ _ l1 _ (w1.below B (Nat.le_refl _)) hn1).mono ?_
  rintro e W9 ⟨A_6, n_6, c_6, rfl, o6, b9⟩
  replace o3 := o3.below b9 (by omega)
  replace o4 := o4.below b9 (by omega)
  replace B := bnext B b9
  have s9 := b9.size
  have hn_6 : n_6 ≤ 1048576 := by have h1 := o6.rd.len; rw [bv_len] at h1; have h2 := w1.len; rw [bv_len] at h2; omega
  go_wp2_with fail
  refine (L_eqByteS_same _ _ _ _ _ _ l1 _ o4.rd o6.rd).mono ?_
  rintro e W10 ⟨rfl, b10⟩
  replace o3 := o3.below b10 (by omega)
  replace o4 := o4.below b10 (by omega)
  replace o6 := o6.below b10 (by omega)
  replace B := bnext B b10
  have s10 := b10.size
  clear o6
  go_wp2_with fail
  go_ret
  exact ⟨rfl, B⟩

set_option maxRecDepth 100000 in
theorem fnExactSameTag_lifted (os : Os) (started : os.Started) (H : Type) (enc : TypeId × Value → H) :
    ReturnsInHanded {} Try.checked os 3 .any (Rows.fnExactSameTagSpec.pre6 enc Try.prog Try.f3 Rows.fnExactSameTagRow.domain false) (Rows.fnExactSameTagSpec.post enc Try.prog Try.f3 false true false false) := by
  refine returnsInHanded_of_change (C := Try.checked) own started (by kernel_rfl) Try.func3
    (ChangeSpec.witness6 (enc := enc) (C := Try.checked) false ⟨#[], #[.slice none 0 0, .slice none 0 0], []⟩ 8 (by kernel_rfl) (by kernel_rfl) (by kernel_rfl) (by kernel_rfl)) ?_
  intro W base args ds gs before hval0 hW hcnd _
  have hval : ∀ (j : Nat) t v, Try.f3.params[j]? = some t → args[j]? = some v → Value.okWide Try.prog W .any base t v := hval0
  have hW' := hW
  obtain ⟨p, q, hA0, hV, rfl, hfz, hnd⟩ := hW
  have hA : DataW.TrodAll enc Try.prog W 0 (fun _ => true) true Try.f3.params.toList args.toList ds p := hA0
  rw [Try.params3] at hA hval
  obtain ⟨v0, vs0, d0, ds0, p0, q0, hargs, rfl, rfl, h0, r0⟩ := trodAll_cons hA
  obtain ⟨v1, vs1, d1, ds1, p1, q1, rfl, rfl, rfl, h1, r1⟩ := trodAll_cons r0
  obtain ⟨rfl, rfl, rfl⟩ := trodAll_nil r1
  obtain rfl : args = #[v0, v1] := by cases args; simp_all
  obtain ⟨rfl, rfl⟩ := trodVars_none hV
  have k0 := h0
  have lt0 : ∀ x ∈ p0, x.block < W.heap.size := by obtain ⟨m, hm⟩ := k0; exact DataW.trod_lt m _ _ _ hm
  obtain ⟨A0, n0, c0, rfl⟩ := okWide_slice Try.underlying22 (hval 0 22 v0 rfl rfl)
  obtain ⟨l0, w0⟩ : ∃ l, Rd W A0 n0 c0 (bv l) := by
    obtain ⟨fuel, hf⟩ := h0
    exact open_bytes Try.underlying22 Try.underlying5 (by kernel_rfl) (by simpa [Value.cells] using hf)
  have k1 := h1
  have lt1 : ∀ x ∈ p1, x.block < W.heap.size := by obtain ⟨m, hm⟩ := k1; exact DataW.trod_lt m _ _ _ hm
  obtain ⟨A1, n1, c1, rfl⟩ := okWide_slice Try.underlying22 (hval 1 22 v1 rfl rfl)
  obtain ⟨l1, w1⟩ : ∃ l, Rd W A1 n1 c1 (bv l) := by
    obtain ⟨fuel, hf⟩ := h1
    exact open_bytes Try.underlying22 Try.underlying5 (by kernel_rfl) (by simpa [Value.cells] using hf)
  clear hA0 hval0
  refine (fnExactSameTag_walk A0 n0 c0 l0 A1 n1 c1 l1 W w0 w1).mono fun e W' ⟨he, bel⟩ => ?_
  subst he
  exact ⟨_, rfl, _, _, _, [], _, [], hW', trodAll_mk1 (shut_bool Try.underlying4 _), (trodAll_cons_mk (Below.trod laidOut (by kernel_rfl) (of_decide_eq_true (by kernel_rfl)) k0 bel lt0) (trodAll_cons_mk (Below.trod laidOut (by kernel_rfl) (of_decide_eq_true (by kernel_rfl)) k1 bel lt1) trodAll_mk0)), rfl, bel.frame _, fun h => by cases h⟩

theorem fnExactSameTag_over : Rows.fnExactSameTagRow.holds Try.pinned (OpenSpec.ofChange Rows.fnExactSameTagSpec) :=
  OpenClaim.holds_of_wide 3 Try.f3 rfl rfl rfl rfl rfl rfl rfl ⟨rfl, rfl, rfl, rfl, rfl⟩ rfl rfl rfl rfl rfl (by kernel_rfl) Try.func3 (by kernel_rfl)
    (of_decide_eq_true (by kernel_rfl)) (by unfold Func.isWrapper; first | (rw [if_pos (by decide +kernel)]; kernel_rfl) | (rw [if_neg (by decide +kernel)]; exact ⟨rfl, rfl⟩))
    (fun os started H enc _ => fnExactSameTag_lifted os started H enc)

/-- The statement. -/
theorem fnExactSameTag_proved : Rows.FnExactSameTagSaid := fnExactSameTag_over
#print axioms fnExactSameTag_proved
end Go.Proofs.Ytckdipncijhedaa
