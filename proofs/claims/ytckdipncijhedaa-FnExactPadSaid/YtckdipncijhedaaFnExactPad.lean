/- Proved: for every input that reads as data, laws.FnExactPad of the given program returns true and leaves its arguments as they read. No condition of its own. -/
import Derived.Test.YtckdipncijhedaaBase
import Derived.Test.YtckdipncijhedaaPad
import Derived.Test.YtckdipncijhedaaEqByte
import Derived.Test.YtckdipncijhedaaMarkByte
namespace Go.Proofs.Ytckdipncijhedaa
open Go.ChangeShapes Go.WideShapes Go.ChangeAt Go.RowKit
set_option linter.unusedVariables false

set_option maxRecDepth 100000 in
set_option maxHeartbeats 1000000 in
theorem fnExactPad_walk (a0 : Int) (w : World) (w0 : -9223372036854775808 ≤ a0 ∧ a0 ≤ 9223372036854775807) :
    Calls Try.prog 8 #[.int .i64 a0] w fun e w' => e = .returned (.bool true) ∧ Below w.heap.size w w' := by
  have B : Below w.heap.size w w := Below.refl _ _
  go_enter Try.func8, Try.ntmps8
  go_wp2_with fail
  refine (S_Pad a0 _).mono ?_
  rintro e W1 ⟨A_1, n_1, c_1, rfl, o1, b1⟩
  replace B := bnext B b1
  have s1 := b1.size
  have hn_1 : n_1 ≤ 72 := by have h1 := o1.rd.len; rw [bv_len] at h1; have h2 := padL_len a0; omega
  go_wp2_with fail
  refine (I_Pad a0 _).mono ?_
  rintro e W2 ⟨A_2, n_2, c_2, rfl, o2, b2⟩
  replace o1 := o1.below b2 (by omega)
  replace B := bnext B b2
  have s2 := b2.size
  have hn_2 : n_2 ≤ 72 := by have h1 := o2.rd.len; rw [bv_len] at h1; have h2 := padL_len a0; omega
  go_wp2_with fail
  refine (L_eqByteS_same _ _ _ _ _ _ _ _ o2.rd o1.rd).mono ?_
  rintro e W3 ⟨rfl, b3⟩
  replace o1 := o1.below b3 (by omega)
  replace o2 := o2.below b3 (by omega)
  replace B := bnext B b3
  have s3 := b3.size
  go_wp2_with fail
  refine (L_markByteS _ _ _ _ _ _ 1 _ o2 (by omega)).mono ?_
  rintro e W4 ⟨rfl, p2, g4⟩
  replace B := grown_next B o2 (by omega) g4
  replace o1 := o1.grown g4 o2.rng (by omega)
  clear o2; have o2 := p2; clear p2
  have s4 := g4.size
  go_wp2_with fail
  refine (L_heldByteS _ _ _ 1 _ o2.rd (by omega)).mono ?_
  rintro e w_ ⟨rfl, rfl⟩
  go_wp2_with fail
  refine (I_Pad a0 _).mono ?_
  rintro e W5 ⟨A_3, n_3, c_3, rfl, o3, b5⟩
  replace o1 := o1.below b5 (by omega)
  replace o2 := o2.below b5 (by omega)
  replace B := bnext B b5
  have s5 := b5.size
  have hn_3 : n_3 ≤ 72 := by have h1 := o3.rd.len; rw [bv_len] at h1; have h2 := padL_len a0; omega
  go_wp2_with fail
  refine (L_eqByteS_same _ _ _ _ _ _ _ _ o3.rd o1.rd).mono ?_
  rintro e W6 ⟨rfl, b6⟩
  replace o1 := o1.below b6 (by omega)
  replace o2 := o2.below b6 (by omega)
  replace o3 := o3.below b6 (by omega)
  replace B := bnext B b6
  have s6 := b6.size
  go_wp2_with fail
  refine (L_heldByteS _ _ _ 1 _ o2.rd (by omega)).mono ?_
  rintro e w_ ⟨rfl, rfl⟩
  go_wp2_with fail
  go_ret
  exact ⟨rfl, B⟩

set_option maxRecDepth 100000 in
theorem fnExactPad_lifted (os : Os) (started : os.Started) (H : Type) (enc : TypeId × Value → H) :
    ReturnsInHanded {} Try.checked os 8 .any (Rows.fnExactPadSpec.pre6 enc Try.prog Try.f8 Rows.fnExactPadRow.domain false) (Rows.fnExactPadSpec.post enc Try.prog Try.f8 false true false false) := by
  refine returnsInHanded_of_change (C := Try.checked) own started (by kernel_rfl) Try.func8
    (ChangeSpec.witness6 (enc := enc) (C := Try.checked) false ⟨#[], #[.int .i64 0], []⟩ 8 (by kernel_rfl) (by kernel_rfl) (by kernel_rfl) (by kernel_rfl)) ?_
  intro W base args ds gs before hval0 hW hcnd _
  have hval : ∀ (j : Nat) t v, Try.f8.params[j]? = some t → args[j]? = some v → Value.okWide Try.prog W .any base t v := hval0
  have hW' := hW
  obtain ⟨p, q, hA0, hV, rfl, hfz, hnd⟩ := hW
  have hA : DataW.TrodAll enc Try.prog W 0 (fun _ => true) true Try.f8.params.toList args.toList ds p := hA0
  rw [Try.params8] at hA hval
  obtain ⟨v0, vs0, d0, ds0, p0, q0, hargs, rfl, rfl, h0, r0⟩ := trodAll_cons hA
  obtain ⟨rfl, rfl, rfl⟩ := trodAll_nil r0
  obtain rfl : args = #[v0] := by cases args; simp_all
  obtain ⟨rfl, rfl⟩ := trodVars_none hV
  obtain ⟨a0, rfl, rfl, rfl, w0⟩ := open_int Try.underlying3 (hval 0 3 v0 rfl rfl) h0
  clear hA0 hval0
  refine (fnExactPad_walk a0 W (bounds64 w0)).mono fun e W' ⟨he, bel⟩ => ?_
  subst he
  exact ⟨_, rfl, _, _, _, [], _, [], hW', trodAll_mk1 (shut_bool Try.underlying4 _), (trodAll_cons_mk (shut_int Try.underlying3 w0) trodAll_mk0), rfl, bel.frame _, fun h => by cases h⟩

theorem fnExactPad_over : Rows.fnExactPadRow.holds Try.pinned (OpenSpec.ofChange Rows.fnExactPadSpec) :=
  OpenClaim.holds_of_wide 8 Try.f8 rfl rfl rfl rfl rfl rfl rfl ⟨rfl, rfl, rfl, rfl, rfl⟩ rfl rfl rfl rfl rfl (by kernel_rfl) Try.func8 (by kernel_rfl)
    (of_decide_eq_true (by kernel_rfl)) (by unfold Func.isWrapper; first | (rw [if_pos (by decide +kernel)]; kernel_rfl) | (rw [if_neg (by decide +kernel)]; exact ⟨rfl, rfl⟩))
    (fun os started H enc _ => fnExactPad_lifted os started H enc)

/-- The statement. -/
theorem fnExactPad_proved : Rows.FnExactPadSaid := fnExactPad_over
#print axioms fnExactPad_proved
end Go.Proofs.Ytckdipncijhedaa
