/- Proved: for every input that reads as data, laws.FnExactDerive of the given program returns true and leaves its arguments as they read. No condition of its own. -/
import Derived.Test.YtbjbncmhnhlkpaaBase
import Derived.Test.YtbjbncmhnhlkpaaKdf2
import Derived.Test.YtbjbncmhnhlkpaaToByte
import Derived.Test.YtbjbncmhnhlkpaaEqByte
import Derived.Test.YtbjbncmhnhlkpaaMarkByte
namespace Go.Proofs.Ytbjbncmhnhlkpaa
open Go.ChangeShapes Go.WideShapes Go.ChangeAt Go.RowKit
set_option linter.unusedVariables false

set_option maxRecDepth 100000 in
set_option maxHeartbeats 1000000 in
theorem fnExactDerive_walk (A0 : Option Addr) (n0 c0 : Nat) (l0 : List UInt8) (s1 : ByteArray) (w : World) (w0 : Rd w A0 n0 c0 (bv l0)) (w1 : s1.size ≤ maxLen) :
    Calls Try.prog 4 #[.slice A0 n0 c0, .string s1] w fun e w' => e = .returned (.bool true) ∧ Below w.heap.size w w' := by
  by_cases hn0 : n0 ≤ 1048576
  rotate_left
  · have hb0 := w0.bnd
    go_enter Try.func4, Try.ntmps4
    go_wp2_with fail
    go_ret
    exact ⟨rfl, Below.refl _ _⟩
  by_cases hn1 : s1.size ≤ 1048576
  rotate_left
  · have hb1 := w1; unfold maxLen at hb1
    go_enter Try.func4, Try.ntmps4
    go_wp2_with fail
    go_ret
    exact ⟨rfl, Below.refl _ _⟩
  have hb0 := w0.bnd
  have hb1 := w1; unfold maxLen at hb1
  have B : Below w.heap.size w w := Below.refl _ _
  go_enter Try.func4, Try.ntmps4
  go_wp2_with fail
  refine (L_toByteS _ _ _ l0 _ (w0.below B (Nat.le_refl _)) hn0).mono ?_
  rintro e W1 ⟨A_1, n_1, c_1, rfl, o1, b1⟩
  replace B := bnext B b1
  have zs1 := b1.size
  have hn_1 : n_1 ≤ 1048576 := by have h1 := o1.rd.len; rw [bv_len] at h1; have h2 := w0.len; rw [bv_len] at h2; omega
  go_wp2_with fail
  refine (S_Derive _ _ _ l0 s1 _ o1.rd (by omega)).mono ?_
  rintro e W2 ⟨A_2, n_2, c_2, rfl, o2, b2⟩
  replace o1 := o1.below b2 (by omega)
  replace B := bnext B b2
  have zs2 := b2.size
  have hn_2 : n_2 ≤ 8160 := by have h1 := o2.rd.len; rw [bv_len] at h1; have h2 := deriveL_le l0 s1.data.toList; omega
  clear o1
  go_wp2_with fail
  refine (L_toByteS _ _ _ l0 _ (w0.below B (Nat.le_refl _)) hn0).mono ?_
  rintro e W3 ⟨A_3, n_3, c_3, rfl, o3, b3⟩
  replace o2 := o2.below b3 (by omega)
  replace B := bnext B b3
  have zs3 := b3.size
  have hn_3 : n_3 ≤ 1048576 := by have h1 := o3.rd.len; rw [bv_len] at h1; have h2 := w0.len; rw [bv_len] at h2; omega
  go_wp2_with fail
  refine (I_Derive _ _ _ l0 s1 _ o3.rd (by omega)).mono ?_
  rintro e W4 ⟨A_4, n_4, c_4, rfl, o4, b4⟩
  replace o2 := o2.below b4 (by omega)
  replace o3 := o3.below b4 (by omega)
  replace B := bnext B b4
  have zs4 := b4.size
  have hn_4 : n_4 ≤ 8160 := by have h1 := o4.rd.len; rw [bv_len] at h1; have h2 := deriveL_le l0 s1.data.toList; omega
  go_wp2_with fail
  refine (L_eqByteS_same _ _ _ _ _ _ _ _ o4.rd o2.rd).mono ?_
  rintro e W5 ⟨rfl, b5⟩
  replace o2 := o2.below b5 (by omega)
  replace o3 := o3.below b5 (by omega)
  replace o4 := o4.below b5 (by omega)
  replace B := bnext B b5
  have zs5 := b5.size
  go_wp2_with fail
  refine (L_toByteS _ _ _ l0 _ (w0.below B (Nat.le_refl _)) hn0).mono ?_
  rintro e W6 ⟨A_5, n_5, c_5, rfl, o5, b6⟩
  replace o2 := o2.below b6 (by omega)
  replace o3 := o3.below b6 (by omega)
  replace o4 := o4.below b6 (by omega)
  replace B := bnext B b6
  have zs6 := b6.size
  have hn_5 : n_5 ≤ 1048576 := by have h1 := o5.rd.len; rw [bv_len] at h1; have h2 := w0.len; rw [bv_len] at h2; omega
  go_wp2_with fail
  refine (L_eqByteS_same _ _ _ _ _ _ l0 _ o3.rd o5.rd).mono ?_
  rintro e W7 ⟨rfl, b7⟩
  replace o2 := o2.below b7 (by omega)
  replace o3 := o3.below b7 (by omega)
  replace o4 := o4.below b7 (by omega)
  replace o5 := o5.below b7 (by omega)
  replace B := bnext B b7
  have zs7 := b7.size
  clear o5
  go_wp2_with fail
  refine (L_markByteS _ _ _ _ _ _ 1 _ o3 (by omega)).mono ?_
  rintro e W8 ⟨rfl, p3, g8⟩
  replace B := grown_next B o3 (by omega) g8
  replace o2 := o2.grown g8 o3.rng (by omega)
  replace o4 := o4.grown g8 o3.rng (by omega)
  clear o3; have o3 := p3; clear p3
  have zs8 := g8.size
  go_wp2_with fail
  refine (L_eqByteS_same _ _ _ _ _ _ _ _ o4.rd o2.rd).mono ?_
  rintro e W9 ⟨rfl, b9⟩
  replace o2 := o2.below b9 (by omega)
  replace o3 := o3.below b9 (by omega)
  replace o4 := o4.below b9 (by omega)
  replace B := bnext B b9
  have zs9 := b9.size
  go_wp2_with fail
  refine (L_markByteS _ _ _ _ _ _ 1 _ o4 (by omega)).mono ?_
  rintro e W10 ⟨rfl, p4, g10⟩
  replace B := grown_next B o4 (by omega) g10
  replace o2 := o2.grown g10 o4.rng (by omega)
  replace o3 := o3.grown g10 o4.rng (by omega)
  clear o4; have o4 := p4; clear p4
  have zs10 := g10.size
  go_wp2_with fail
  refine (L_heldByteS _ _ _ 1 _ o4.rd (by omega)).mono ?_
  rintro e w_ ⟨rfl, rfl⟩
  clear o3
  go_wp2_with fail
  refine (L_toByteS _ _ _ l0 _ (w0.below B (Nat.le_refl _)) hn0).mono ?_
  rintro e W11 ⟨A_6, n_6, c_6, rfl, o6, b11⟩
  replace o2 := o2.below b11 (by omega)
  replace o4 := o4.below b11 (by omega)
  replace B := bnext B b11
  have zs11 := b11.size
  have hn_6 : n_6 ≤ 1048576 := by have h1 := o6.rd.len; rw [bv_len] at h1; have h2 := w0.len; rw [bv_len] at h2; omega
  go_wp2_with fail
  refine (I_Derive _ _ _ l0 s1 _ o6.rd (by omega)).mono ?_
  rintro e W12 ⟨A_7, n_7, c_7, rfl, o7, b12⟩
  replace o2 := o2.below b12 (by omega)
  replace o4 := o4.below b12 (by omega)
  replace o6 := o6.below b12 (by omega)
  replace B := bnext B b12
  have zs12 := b12.size
  have hn_7 : n_7 ≤ 8160 := by have h1 := o7.rd.len; rw [bv_len] at h1; have h2 := deriveL_le l0 s1.data.toList; omega
  clear o6
  go_wp2_with fail
  refine (L_eqByteS_same _ _ _ _ _ _ _ _ o7.rd o2.rd).mono ?_
  rintro e W13 ⟨rfl, b13⟩
  replace o2 := o2.below b13 (by omega)
  replace o4 := o4.below b13 (by omega)
  replace o7 := o7.below b13 (by omega)
  replace B := bnext B b13
  have zs13 := b13.size
  go_wp2_with fail
  refine (L_heldByteS _ _ _ 1 _ o4.rd (by omega)).mono ?_
  rintro e w_ ⟨rfl, rfl⟩
  go_wp2_with fail
  go_ret
  exact ⟨rfl, B⟩

set_option maxRecDepth 100000 in
theorem fnExactDerive_lifted (os : Os) (started : os.Started) (H : Type) (enc : TypeId × Value → H) :
    ReturnsInHanded {} Try.checked os 4 .any (Rows.fnExactDeriveSpec.pre6 enc Try.prog Try.f4 Rows.fnExactDeriveRow.domain false) (Rows.fnExactDeriveSpec.post enc Try.prog Try.f4 false true false false) := by
  refine returnsInHanded_of_change (C := Try.checked) own started (by kernel_rfl) Try.func4
    (ChangeSpec.witness6 (enc := enc) (C := Try.checked) false ⟨#[], #[.slice none 0 0, .string ByteArray.empty], []⟩ 8 (by kernel_rfl) (by kernel_rfl) (by kernel_rfl) (by kernel_rfl)) ?_
  intro W base args ds gs before hval0 hW hcnd _
  have hval : ∀ (j : Nat) t v, Try.f4.params[j]? = some t → args[j]? = some v → Value.okWide Try.prog W .any base t v := hval0
  have hW' := hW
  obtain ⟨p, q, hA0, hV, rfl, hfz, hnd⟩ := hW
  have hA : DataW.TrodAll enc Try.prog W 0 (fun _ => true) true Try.f4.params.toList args.toList ds p := hA0
  rw [Try.params4] at hA hval
  obtain ⟨v0, vs0, d0, ds0, p0, q0, hargs, rfl, rfl, h0, r0⟩ := trodAll_cons hA
  obtain ⟨v1, vs1, d1, ds1, p1, q1, rfl, rfl, rfl, h1, r1⟩ := trodAll_cons r0
  obtain ⟨rfl, rfl, rfl⟩ := trodAll_nil r1
  obtain rfl : args = #[v0, v1] := by cases args; simp_all
  obtain ⟨rfl, rfl⟩ := trodVars_none hV
  have k0 := h0
  have lt0 : ∀ x ∈ p0, x.block < W.heap.size := by obtain ⟨m, hm⟩ := k0; exact DataW.trod_lt m _ _ _ hm
  obtain ⟨A0, n0, c0, rfl⟩ := okWide_slice Try.underlying22 (hval 0 22 v0 rfl rfl)
  obtain ⟨l0, w0⟩ : ∃ l, Rd W A0 n0 c0 (bv l) := by
    obtain ⟨fuel, hf⟩ := h0
    exact open_bytes Try.underlying22 Try.underlying5 (by kernel_rfl) (by simpa [Value.cells] using hf)
  obtain ⟨s1, rfl, rfl, rfl, w1⟩ := Go.ChangeMaps.open_string Try.underlying9 (hval 1 9 v1 rfl rfl) h1
  clear hA0 hval0
  refine (fnExactDerive_walk A0 n0 c0 l0 s1 W w0 w1).mono fun e W' ⟨he, bel⟩ => ?_
  subst he
  exact ⟨_, rfl, _, _, _, [], _, [], hW', trodAll_mk1 (shut_bool Try.underlying4 _), (trodAll_cons_mk (Below.trod laidOut (by kernel_rfl) (of_decide_eq_true (by kernel_rfl)) k0 bel lt0) (trodAll_cons_mk (Go.ChangeMaps.shut_string Try.underlying9 w1) trodAll_mk0)), rfl, bel.frame _, fun h => by cases h⟩

theorem fnExactDerive_over : Rows.fnExactDeriveRow.holds Try.pinned (OpenSpec.ofChange Rows.fnExactDeriveSpec) :=
  OpenClaim.holds_of_wide 4 Try.f4 rfl rfl rfl rfl rfl rfl rfl ⟨rfl, rfl, rfl, rfl, rfl⟩ rfl rfl rfl rfl rfl (by kernel_rfl) Try.func4 (by kernel_rfl)
    (of_decide_eq_true (by kernel_rfl)) (by unfold Func.isWrapper; first | (rw [if_pos (by decide +kernel)]; kernel_rfl) | (rw [if_neg (by decide +kernel)]; exact ⟨rfl, rfl⟩))
    (fun os started H enc _ => fnExactDerive_lifted os started H enc)

/-- The statement. -/
theorem fnExactDerive_proved : Rows.FnExactDeriveSaid := fnExactDerive_over
#print axioms fnExactDerive_proved
end Go.Proofs.Ytbjbncmhnhlkpaa
