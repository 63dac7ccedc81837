/- Proved: for every input that reads as data, laws.FnExactHexText of the given program returns true and leaves its arguments as they read. No condition of its own. -/
import Derived.Test.YtnngiampfdjlfaaBase
import Derived.Test.YtnngiampfdjlfaaHexT
import Derived.Test.YtnngiampfdjlfaaToByte
import Derived.Test.YtnngiampfdjlfaaEqByte
namespace Go.Proofs.Ytnngiampfdjlfaa
open Go.ChangeShapes Go.WideShapes Go.ChangeAt Go.RowKit
set_option linter.unusedVariables false

set_option maxRecDepth 100000 in
set_option maxHeartbeats 1000000 in
theorem fnExactHexText_walk (A0 : Option Addr) (n0 c0 : Nat) (l0 : List UInt8) (w : World) (w0 : Rd w A0 n0 c0 (bv l0)) :
    Calls Try.prog 3 #[.slice A0 n0 c0] w fun e w' => e = .returned (.bool true) ∧ Below w.heap.size w w' := by
  by_cases hn0 : n0 ≤ 1048576
  rotate_left
  · have hb0 := w0.bnd
    go_enter Try.func3, Try.ntmps3
    go_wp2_with fail
    go_ret
    exact ⟨rfl, Below.refl _ _⟩
  have hb0 := w0.bnd
  have B : Below w.heap.size w w := Below.refl _ _
  go_enter Try.func3, Try.ntmps3
  go_wp2_with fail
  refine (L_toByteS _ _ _ l0 _ (w0.below B (Nat.le_refl _)) hn0).mono ?_
  rintro e W1 ⟨A_1, n_1, c_1, rfl, o1, b1⟩
  replace B := bnext B b1
  have zs1 := b1.size
  have hn_1 : n_1 ≤ 1048576 := by have h1 := o1.rd.len; rw [bv_len] at h1; have h2 := w0.len; rw [bv_len] at h2; omega
  go_wp2_with fail
  refine (S_HexText _ _ _ l0 _ o1.rd (by omega)).mono ?_
  rintro e W2 ⟨rfl, b2⟩
  replace o1 := o1.below b2 (by omega)
  replace B := bnext B b2
  have zs2 := b2.size
  clear o1
  go_wp2_with fail
  refine (L_toByteS _ _ _ l0 _ (w0.below B (Nat.le_refl _)) hn0).mono ?_
  rintro e W3 ⟨A_2, n_2, c_2, rfl, o2, b3⟩
  replace B := bnext B b3
  have zs3 := b3.size
  have hn_2 : n_2 ≤ 1048576 := by have h1 := o2.rd.len; rw [bv_len] at h1; have h2 := w0.len; rw [bv_len] at h2; omega
  go_wp2_with fail
  refine (I_HexText _ _ _ l0 _ o2.rd (by omega)).mono ?_
  rintro e W4 ⟨rfl, b4⟩
  replace o2 := o2.below b4 (by omega)
  replace B := bnext B b4
  have zs4 := b4.size
  go_wp2_with fail
  refine (L_toByteS _ _ _ l0 _ (w0.below B (Nat.le_refl _)) hn0).mono ?_
  rintro e W5 ⟨A_3, n_3, c_3, rfl, o3, b5⟩
  replace o2 := o2.below b5 (by omega)
  replace B := bnext B b5
  have zs5 := b5.size
  have hn_3 : n_3 ≤ 1048576 := by have h1 := o3.rd.len; rw [bv_len] at h1; have h2 := w0.len; rw [bv_len] at h2; omega
  go_wp2_with fail
  refine (L_eqByteS_same _ _ _ _ _ _ l0 _ o2.rd o3.rd).mono ?_
  rintro e W6 ⟨rfl, b6⟩
  replace o2 := o2.below b6 (by omega)
  replace o3 := o3.below b6 (by omega)
  replace B := bnext B b6
  have zs6 := b6.size
  clear o3
  go_wp2_with fail
  go_ret
  exact ⟨rfl, B⟩

set_option maxRecDepth 100000 in
theorem fnExactHexText_lifted (os : Os) (started : os.Started) (H : Type) (enc : TypeId × Value → H) :
    ReturnsInHanded {} Try.checked os 3 .any (Rows.fnExactHexTextSpec.pre6 enc Try.prog Try.f3 Rows.fnExactHexTextRow.domain false) (Rows.fnExactHexTextSpec.post enc Try.prog Try.f3 false true false false) := by
  refine returnsInHanded_of_change (C := Try.checked) own started (by kernel_rfl) Try.func3
    (ChangeSpec.witness6 (enc := enc) (C := Try.checked) false ⟨#[], #[.slice none 0 0], []⟩ 8 (by kernel_rfl) (by kernel_rfl) (by kernel_rfl) (by kernel_rfl)) ?_
  intro W base args ds gs before hval0 hW hcnd _
  have hval : ∀ (j : Nat) t v, Try.f3.params[j]? = some t → args[j]? = some v → Value.okWide Try.prog W .any base t v := hval0
  have hW' := hW
  obtain ⟨p, q, hA0, hV, rfl, hfz, hnd⟩ := hW
  have hA : DataW.TrodAll enc Try.prog W 0 (fun _ => true) true Try.f3.params.toList args.toList ds p := hA0
  rw [Try.params3] at hA hval
  obtain ⟨v0, vs0, d0, ds0, p0, q0, hargs, rfl, rfl, h0, r0⟩ := trodAll_cons hA
  obtain ⟨rfl, rfl, rfl⟩ := trodAll_nil r0
  obtain rfl : args = #[v0] := by cases args; simp_all
  obtain ⟨rfl, rfl⟩ := trodVars_none hV
  have k0 := h0
  have lt0 : ∀ x ∈ p0, x.block < W.heap.size := by obtain ⟨m, hm⟩ := k0; exact DataW.trod_lt m _ _ _ hm
  obtain ⟨A0, n0, c0, rfl⟩ := okWide_slice Try.underlying22 (hval 0 22 v0 rfl rfl)
  obtain ⟨l0, w0⟩ : ∃ l, Rd W A0 n0 c0 (bv l) := by
    obtain ⟨fuel, hf⟩ := h0
    exact open_bytes Try.underlying22 Try.underlying5 (by kernel_rfl) (by simpa [Value.cells] using hf)
  clear hA0 hval0
  refine (fnExactHexText_walk A0 n0 c0 l0 W w0).mono fun e W' ⟨he, bel⟩ => ?_
  subst he
  exact ⟨_, rfl, _, _, _, [], _, [], hW', trodAll_mk1 (shut_bool Try.underlying4 _), (trodAll_cons_mk (Below.trod laidOut (by kernel_rfl) (of_decide_eq_true (by kernel_rfl)) k0 bel lt0) trodAll_mk0), rfl, bel.frame _, fun h => by cases h⟩

theorem fnExactHexText_over : Rows.fnExactHexTextRow.holds Try.pinned (OpenSpec.ofChange Rows.fnExactHexTextSpec) :=
  OpenClaim.holds_of_wide 3 Try.f3 rfl rfl rfl rfl rfl rfl rfl ⟨rfl, rfl, rfl, rfl, rfl⟩ rfl rfl rfl rfl rfl (by kernel_rfl) Try.func3 (by kernel_rfl)
    (of_decide_eq_true (by kernel_rfl)) (by unfold Func.isWrapper; first | (rw [if_pos (by decide +kernel)]; kernel_rfl) | (rw [if_neg (by decide +kernel)]; exact ⟨rfl, rfl⟩))
    (fun os started H enc _ => fnExactHexText_lifted os started H enc)

/-- The statement. -/
theorem fnExactHexText_proved : Rows.FnExactHexTextSaid := fnExactHexText_over
#print axioms fnExactHexText_proved
end Go.Proofs.Ytnngiampfdjlfaa
