/- Proved: for every input that reads as data, laws.FnExactAddrOk of the given program returns true and leaves its arguments as they read. No condition of its own. -/
import Derived.Test.YtcejibgdekpceaaBase
import Derived.Test.YtcejibgdekpceaaAddr
namespace Go.Proofs.Ytcejibgdekpceaa
open Go.ChangeShapes Go.WideShapes Go.ChangeAt Go.RowKit
set_option linter.unusedVariables false

theorem fnExactAddrOk_walk (a0 b0 : Int) (w : World) (w0 : -9223372036854775808 ≤ a0 ∧ a0 ≤ 9223372036854775807) (x0 : -9223372036854775808 ≤ b0 ∧ b0 ≤ 9223372036854775807) :
    Calls Try.prog 6 #[.agg #[.int .i64 a0, .int .i64 b0]] w fun e w' => e = .returned (.bool true) ∧ Below w.heap.size w w' := by
  go_enter Try.func6, Try.ntmps6
  go_wp2_with fail
  refine (L_toAddr a0 b0 _).mono ?_
  rintro e w1 ⟨rfl, h1⟩
  have hc : ∀ o, w1.cell? ⟨w.heap.size, o, none⟩ = (w.alloc (.cells #[.int .i64 a0, .int .i64 b0] 27)).cell? ⟨w.heap.size, o, none⟩ := fun o => h1.cell (by simp)
  go_wp2_with fail
  refine (S_AddrOk a0 b0 _).mono ?_
  rintro e w2 ⟨rfl, h2⟩
  have hc : ∀ o, w2.cell? ⟨w.heap.size, o, none⟩ = w1.cell? ⟨w.heap.size, o, none⟩ := fun o => h2.cell (by have := h1.size; simp at this; simp; omega)
  go_wp2_with fail
  refine (L_toAddr a0 b0 _).mono ?_
  rintro e w3 ⟨rfl, h3⟩
  go_wp2_with fail
  refine (I_AddrOk a0 b0 _).mono ?_
  rintro e w4 ⟨rfl, h4⟩
  go_wp2_with fail
  go_ret
  exact ⟨rfl, bnext (bnext (bnext (bnext (balloc (Below.refl _ _) _) h1) h2) h3) h4⟩

theorem fnExactAddrOk_cellsA : Try.prog.cellsOf 27 = 2 := by kernel_rfl
set_option maxRecDepth 100000 in
theorem fnExactAddrOk_lifted (os : Os) (started : os.Started) (H : Type) (enc : TypeId × Value → H) :
    ReturnsInHanded {} Try.checked os 6 .any (Rows.fnExactAddrOkSpec.pre6 enc Try.prog Try.f6 Rows.fnExactAddrOkRow.domain false) (Rows.fnExactAddrOkSpec.post enc Try.prog Try.f6 false true false false) := by
  refine returnsInHanded_of_change (C := Try.checked) own started (by kernel_rfl) Try.func6
    (ChangeSpec.witness6 (enc := enc) (C := Try.checked) false ⟨#[], #[.agg #[.int .i64 0, .int .i64 0]], []⟩ 8 (by kernel_rfl) (by kernel_rfl) (by kernel_rfl) (by kernel_rfl)) ?_
  intro W base args ds gs before hval0 hW hcnd _
  have hval : ∀ (j : Nat) t v, Try.f6.params[j]? = some t → args[j]? = some v → Value.okWide Try.prog W .any base t v := hval0
  have hW' := hW
  obtain ⟨p, q, hA0, hV, rfl, hfz, hnd⟩ := hW
  have hA : DataW.TrodAll enc Try.prog W 0 (fun _ => true) true Try.f6.params.toList args.toList ds p := hA0
  rw [Try.params6] at hA hval
  obtain ⟨v0, vs0, d0, ds0, p0, q0, hargs, rfl, rfl, h0, r0⟩ := trodAll_cons hA
  obtain ⟨rfl, rfl, rfl⟩ := trodAll_nil r0
  obtain rfl : args = #[v0] := by cases args; simp_all
  obtain ⟨rfl, rfl⟩ := trodVars_none hV
  have k0 := h0
  have lt0 : ∀ x ∈ p0, x.block < W.heap.size := by obtain ⟨m, hm⟩ := k0; exact DataW.trod_lt m _ _ _ hm
  obtain ⟨u0, u'0, y0, y'0, m0, rfl, rfl, rfl, g0, g'0⟩ := Joins.open_agg2 Try.underlying27 (by kernel_rfl) fnExactAddrOk_cellsA (hval 0 27 v0 rfl rfl) h0
  obtain ⟨a0, e0, rfl, w0⟩ := DataW.trod_int Try.underlying3 g0
  obtain ⟨b0, e'0, rfl, x0⟩ := DataW.trod_int Try.underlying3 g'0
  simp only [List.cons.injEq, and_true] at e0 e'0
  subst e0; subst e'0
  clear hA0 hval0
  refine (fnExactAddrOk_walk a0 b0 W (bounds64 w0) (bounds64 x0)).mono fun e W' ⟨he, bel⟩ => ?_
  subst he
  exact ⟨_, rfl, _, _, _, [], _, [], hW', trodAll_mk1 (shut_bool Try.underlying4 _), (trodAll_cons_mk (Below.trod laidOut (by kernel_rfl) (of_decide_eq_true (by kernel_rfl)) k0 bel lt0) trodAll_mk0), rfl, bel.frame _, fun h => by cases h⟩

theorem fnExactAddrOk_over : Rows.fnExactAddrOkRow.holds Try.pinned (OpenSpec.ofChange Rows.fnExactAddrOkSpec) :=
  OpenClaim.holds_of_wide 6 Try.f6 rfl rfl rfl rfl rfl rfl rfl ⟨rfl, rfl, rfl, rfl, rfl⟩ rfl rfl rfl rfl rfl (by kernel_rfl) Try.func6 (by kernel_rfl)
    (of_decide_eq_true (by kernel_rfl)) (by unfold Func.isWrapper; first | (rw [if_pos (by decide +kernel)]; kernel_rfl) | (rw [if_neg (by decide +kernel)]; exact ⟨rfl, rfl⟩))
    (fun os started H enc _ => fnExactAddrOk_lifted os started H enc)

/-- The statement. -/
theorem fnExactAddrOk_proved : Rows.FnExactAddrOkSaid := fnExactAddrOk_over
#print axioms fnExactAddrOk_proved
end Go.Proofs.Ytcejibgdekpceaa
