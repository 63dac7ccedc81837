/- Proved: for every input that reads as data, laws.FnExactGetAddr of the given program returns true and leaves its arguments as they read. No condition of its own. -/
import Derived.Test.YtckdipncijhedaaBase
import Derived.Test.YtckdipncijhedaaPAddr
import Derived.Test.YtckdipncijhedaaToByte
import Derived.Test.YtckdipncijhedaaEqByte
namespace Go.Proofs.Ytckdipncijhedaa
open Go.ChangeShapes Go.WideShapes Go.ChangeAt Go.RowKit
set_option linter.unusedVariables false

theorem eqAd_same (a b : Int) : eqAd a b a b = true := by simp [eqAd]
set_option maxHeartbeats 1000000 in
theorem fnExactGetAddr_walk (A0 : Option Addr) (n0 c0 : Nat) (l0 : List UInt8) (a1 : Int) (w : World) (w0 : Rd w A0 n0 c0 (bv l0)) (w1 : -9223372036854775808 ≤ a1 ∧ a1 ≤ 9223372036854775807) :
    Calls Try.prog 10 #[.slice A0 n0 c0, .int .i64 a1] w fun e w' => e = .returned (.bool true) ∧ Below w.heap.size w w' := by
  by_cases hn0 : n0 ≤ 1048576
  rotate_left
  · have hb0 := w0.bnd
    go_enter Try.func10, Try.ntmps10
    go_wp2_with fail
    go_ret
    exact ⟨rfl, Below.refl _ _⟩
  have hb0 := w0.bnd
  have hl0 : l0.length ≤ 1048576 := by have h2 := w0.len; rw [bv_len] at h2; omega
  have C := Lib.hid fun W => (L_eqAddr (gaH l0 a1) (gaP l0 a1) (gaH l0 a1) (gaP l0 a1) W).mono fun e w' h => (⟨by rw [h.1, eqAd_same], h.2⟩ : e = .returned (.bool true) ∧ Below W.heap.size W w')
  have B : Below w.heap.size w w := Below.refl _ _
  go_enter Try.func10, Try.ntmps10
  go_wp2_with fail
  refine (L_toByteS _ _ _ l0 _ (w0.below B (Nat.le_refl _)) hn0).mono ?_
  rintro e W1 ⟨A_1, n_1, c_1, rfl, o1, b1⟩
  replace B := bnext B b1
  have hn_1 : n_1 ≤ 70368744177664 := by have h1 := o1.rd.len; rw [bv_len] at h1; omega
  go_wp2_with fail
  refine (S_GetAddr _ _ _ l0 a1 _ o1.rd hn_1).mono ?_
  rintro e W2 ⟨rfl, b2⟩
  replace B := bnext B b2
  have hc2 : ∀ o, (W2.alloc (.cells #[.int .i64 (gaH l0 a1), .int .i64 (gaP l0 a1)] 41)).cell? ⟨W2.heap.size, o, none⟩ = #[Value.int .i64 (gaH l0 a1), .int .i64 (gaP l0 a1)][o]? := fun o => by simp [go_sem]
  replace B := balloc B (.cells #[.int .i64 (gaH l0 a1), .int .i64 (gaP l0 a1)] 41)
  clear o1
  go_wp2_with fail
  refine (L_toByteS _ _ _ l0 _ (w0.below B (Nat.le_refl _)) hn0).mono ?_
  rintro e W3 ⟨A_3, n_3, c_3, rfl, o3, b3⟩
  have hc3 : ∀ o, W3.cell? ⟨W2.heap.size, o, none⟩ = #[Value.int .i64 (gaH l0 a1), .int .i64 (gaP l0 a1)][o]? := fun o => (b3.cell (by simp)).trans (hc2 o)
  have s3 : W2.heap.size < W3.heap.size := by have := b3.size; simp at this; omega
  replace B := bnext B b3
  have hn_3 : n_3 ≤ 70368744177664 := by have h1 := o3.rd.len; rw [bv_len] at h1; omega
  clear hc2
  go_wp2_with fail
  refine (I_GetAddr _ _ _ l0 a1 _ o3.rd hn_3).mono ?_
  rintro e W4 ⟨rfl, b4⟩
  have hc4 : ∀ o, W4.cell? ⟨W2.heap.size, o, none⟩ = #[Value.int .i64 (gaH l0 a1), .int .i64 (gaP l0 a1)][o]? := fun o => (b4.cell s3).trans (hc3 o)
  have s4 : W2.heap.size < W4.heap.size := by have := b4.size; omega
  replace B := bnext B b4
  replace o3 := o3.below b4 (Nat.le_refl _)
  have s4' := b4.size
  clear hc3
  replace o3 : Ow (W4.alloc (.cells #[.int .i64 (gaH l0 a1), .int .i64 (gaP l0 a1)] 41)) _ _ _ _ _ _ _ := o3.below ((Below.refl _ _).alloc (Nat.le_refl _) _) s4'
  replace B := balloc B (.cells #[.int .i64 (gaH l0 a1), .int .i64 (gaP l0 a1)] 41)
  have hi0 := hc4 0
  have hi1 := hc4 1
  clear hc4
  go_wp2_with fail
  refine (C.out _).mono ?_
  rintro e W5 ⟨rfl, b5⟩
  replace o3 := o3.below b5 (by simp; omega)
  replace B := bnext B b5
  have s5 : W3.heap.size ≤ W5.heap.size := by have := b5.size; simp at this; omega
  go_wp2_with fail
  refine (L_toByteS _ _ _ l0 _ (w0.below B (Nat.le_refl _)) hn0).mono ?_
  rintro e W6 ⟨A_6, n_6, c_6, rfl, o6, b6⟩
  replace o3 := o3.below b6 s5
  replace B := bnext B b6
  go_wp2_with fail
  refine (L_eqByteS_same _ _ _ _ _ _ l0 _ o3.rd o6.rd).mono ?_
  rintro e W7 ⟨rfl, b7⟩
  replace B := bnext B b7
  go_wp2_with fail
  go_ret
  exact ⟨rfl, B⟩

set_option maxRecDepth 100000 in
theorem fnExactGetAddr_lifted (os : Os) (started : os.Started) (H : Type) (enc : TypeId × Value → H) :
    ReturnsInHanded {} Try.checked os 10 .any (Rows.fnExactGetAddrSpec.pre6 enc Try.prog Try.f10 Rows.fnExactGetAddrRow.domain false) (Rows.fnExactGetAddrSpec.post enc Try.prog Try.f10 false true false false) := by
  refine returnsInHanded_of_change (C := Try.checked) own started (by kernel_rfl) Try.func10
    (ChangeSpec.witness6 (enc := enc) (C := Try.checked) false ⟨#[], #[.slice none 0 0, .int .i64 0], []⟩ 8 (by kernel_rfl) (by kernel_rfl) (by kernel_rfl) (by kernel_rfl)) ?_
  intro W base args ds gs before hval0 hW hcnd _
  have hval : ∀ (j : Nat) t v, Try.f10.params[j]? = some t → args[j]? = some v → Value.okWide Try.prog W .any base t v := hval0
  have hW' := hW
  obtain ⟨p, q, hA0, hV, rfl, hfz, hnd⟩ := hW
  have hA : DataW.TrodAll enc Try.prog W 0 (fun _ => true) true Try.f10.params.toList args.toList ds p := hA0
  rw [Try.params10] at hA hval
  obtain ⟨v0, vs0, d0, ds0, p0, q0, hargs, rfl, rfl, h0, r0⟩ := trodAll_cons hA
  obtain ⟨v1, vs1, d1, ds1, p1, q1, rfl, rfl, rfl, h1, r1⟩ := trodAll_cons r0
  obtain ⟨rfl, rfl, rfl⟩ := trodAll_nil r1
  obtain rfl : args = #[v0, v1] := by cases args; simp_all
  obtain ⟨rfl, rfl⟩ := trodVars_none hV
  have k0 := h0
  have lt0 : ∀ x ∈ p0, x.block < W.heap.size := by obtain ⟨m, hm⟩ := k0; exact DataW.trod_lt m _ _ _ hm
  obtain ⟨A0, n0, c0, rfl⟩ := okWide_slice Try.underlying22 (hval 0 22 v0 rfl rfl)
  obtain ⟨l0, w0⟩ : ∃ l, Rd W A0 n0 c0 (bv l) := by
    obtain ⟨fuel, hf⟩ := h0
    exact open_bytes Try.underlying22 Try.underlying5 (by kernel_rfl) (by simpa [Value.cells] using hf)
  obtain ⟨a1, rfl, rfl, rfl, w1⟩ := open_int Try.underlying3 (hval 1 3 v1 rfl rfl) h1
  clear hA0 hval0
  refine (fnExactGetAddr_walk A0 n0 c0 l0 a1 W w0 (bounds64 w1)).mono fun e W' ⟨he, bel⟩ => ?_
  subst he
  exact ⟨_, rfl, _, _, _, [], _, [], hW', trodAll_mk1 (shut_bool Try.underlying4 _), (trodAll_cons_mk (Below.trod laidOut (by kernel_rfl) (of_decide_eq_true (by kernel_rfl)) k0 bel lt0) (trodAll_cons_mk (shut_int Try.underlying3 w1) trodAll_mk0)), rfl, bel.frame _, fun h => by cases h⟩

theorem fnExactGetAddr_over : Rows.fnExactGetAddrRow.holds Try.pinned (OpenSpec.ofChange Rows.fnExactGetAddrSpec) :=
  OpenClaim.holds_of_wide 10 Try.f10 rfl rfl rfl rfl rfl rfl rfl ⟨rfl, rfl, rfl, rfl, rfl⟩ rfl rfl rfl rfl rfl (by kernel_rfl) Try.func10 (by kernel_rfl)
    (of_decide_eq_true (by kernel_rfl)) (by unfold Func.isWrapper; first | (rw [if_pos (by decide +kernel)]; kernel_rfl) | (rw [if_neg (by decide +kernel)]; exact ⟨rfl, rfl⟩))
    (fun os started H enc _ => fnExactGetAddr_lifted os started H enc)

/-- The statement. -/
theorem fnExactGetAddr_proved : Rows.FnExactGetAddrSaid := fnExactGetAddr_over
#print axioms fnExactGetAddr_proved
end Go.Proofs.Ytckdipncijhedaa
