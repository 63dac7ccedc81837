/- Proved: for every input that reads as data, laws.FnExactStart of the given program returns true and leaves its arguments as they read. No condition of its own. -/
import Derived.Test.YtcejibgdekpceaaBase
import Derived.Test.YtcejibgdekpceaaConst
import Derived.Test.YtcejibgdekpceaaEqInt
import Derived.Test.YtcejibgdekpceaaMarkInt
namespace Go.Proofs.Ytcejibgdekpceaa
open Go.ChangeShapes Go.WideShapes Go.ChangeAt Go.RowKit
set_option linter.unusedVariables false

theorem fnExactStart_walk  (w : World)  :
    Calls Try.prog 12 #[] w fun e w' => e = .returned (.bool true) ∧ Below w.heap.size w w' := by
  go_enter Try.func12, Try.ntmps12
  go_wp2_with fail
  refine (S_Start _).mono ?_
  rintro e w1 ⟨A1, n1, c1, rfl, o1, b1⟩
  go_wp2_with fail
  refine (I_Start _).mono ?_
  rintro e w2 ⟨A2, n2, c2, rfl, o2, b2⟩
  have o1 := o1.below b2 (Nat.le_refl _)
  have B := bnext b1 b2
  have hn2 : n2 ≤ 8 := by have := o2.rd.len; rw [iv_len] at this; simp [startL] at this; omega
  have s1 := b1.size
  have s2 := b2.size
  go_wp2_with fail
  refine (L_eqIntS_same _ _ _ _ _ _ startL _ o2.rd o1.rd).mono ?_
  rintro e w3 ⟨rfl, b3⟩
  have o1 := o1.below b3 s2
  have o2 := o2.below b3 (Nat.le_refl _)
  have B := bnext B b3
  have s3 := b3.size
  go_wp2_with fail
  refine (L_markIntS _ _ _ _ _ _ 1 _ o2 (by omega)).mono ?_
  rintro e w4 ⟨rfl, o2', g4⟩
  have B := grown_next B o2 s1 g4
  have o1 := o1.grown g4 o2.rng (.inl (Nat.le_refl _))
  have s4 := g4.size
  go_wp2_with fail
  refine (L_heldIntS _ _ _ 1 _ o2'.rd (by omega)).mono ?_
  rintro e w5 ⟨rfl, rfl⟩
  go_wp2_with fail
  refine (I_Start _).mono ?_
  rintro e w6 ⟨A3, n3, c3, rfl, o3, b6⟩
  have o1 := o1.below b6 (by omega)
  have o2 := o2'.below b6 (by omega)
  have B := bnext B b6
  go_wp2_with fail
  refine (L_eqIntS_same _ _ _ _ _ _ startL _ o3.rd o1.rd).mono ?_
  rintro e w7 ⟨rfl, b7⟩
  have o2 := o2.below b7 (by have := b6.size; omega)
  have B := bnext B b7
  go_wp2_with fail
  refine (L_heldIntS _ _ _ 1 _ o2.rd (by omega)).mono ?_
  rintro e w8 ⟨rfl, rfl⟩
  go_wp2_with fail
  go_ret
  exact ⟨rfl, B⟩

set_option maxRecDepth 100000 in
theorem fnExactStart_lifted (os : Os) (started : os.Started) (H : Type) (enc : TypeId × Value → H) :
    ReturnsInHanded {} Try.checked os 12 .any (Rows.fnExactStartSpec.pre6 enc Try.prog Try.f12 Rows.fnExactStartRow.domain false) (Rows.fnExactStartSpec.post enc Try.prog Try.f12 false true false false) := by
  refine returnsInHanded_of_change (C := Try.checked) own started (by kernel_rfl) Try.func12
    (ChangeSpec.witness6 (enc := enc) (C := Try.checked) false ⟨#[], #[], []⟩ 8 (by kernel_rfl) (by kernel_rfl) (by kernel_rfl) (by kernel_rfl)) ?_
  intro W base args ds gs before hval0 hW hcnd _
  have hval : ∀ (j : Nat) t v, Try.f12.params[j]? = some t → args[j]? = some v → Value.okWide Try.prog W .any base t v := hval0
  have hW' := hW
  obtain ⟨p, q, hA0, hV, rfl, hfz, hnd⟩ := hW
  have hA : DataW.TrodAll enc Try.prog W 0 (fun _ => true) true Try.f12.params.toList args.toList ds p := hA0
  rw [Try.params12] at hA hval
  obtain ⟨rfl, rfl, rfl⟩ := trodAll_none hA
  obtain ⟨rfl, rfl⟩ := trodVars_none hV
  clear hA0 hval0
  refine (fnExactStart_walk  W ).mono fun e W' ⟨he, bel⟩ => ?_
  subst he
  exact ⟨_, rfl, _, _, _, [], _, [], hW', trodAll_mk1 (shut_bool Try.underlying4 _), trodAll_mk0, rfl, bel.frame _, fun h => by cases h⟩

theorem fnExactStart_over : Rows.fnExactStartRow.holds Try.pinned (OpenSpec.ofChange Rows.fnExactStartSpec) :=
  OpenClaim.holds_of_wide 12 Try.f12 rfl rfl rfl rfl rfl rfl rfl ⟨rfl, rfl, rfl, rfl, rfl⟩ rfl rfl rfl rfl rfl (by kernel_rfl) Try.func12 (by kernel_rfl)
    (of_decide_eq_true (by kernel_rfl)) (by unfold Func.isWrapper; first | (rw [if_pos (by decide +kernel)]; kernel_rfl) | (rw [if_neg (by decide +kernel)]; exact ⟨rfl, rfl⟩))
    (fun os started H enc _ => fnExactStart_lifted os started H enc)

/-- The statement. -/
theorem fnExactStart_proved : Rows.FnExactStartSaid := fnExactStart_over
#print axioms fnExactStart_proved
end Go.Proofs.Ytcejibgdekpceaa
