/- Proved: for every input that reads as data, laws.FnExactMix of the given program returns true and leaves its arguments as they read. No condition of its own. -/
import Derived.Test.YtbjbncmhnhlkpaaBase
import Derived.Test.YtbjbncmhnhlkpaaKdf4
import Derived.Test.YtbjbncmhnhlkpaaToByte
import Derived.Test.YtbjbncmhnhlkpaaEqByte
import Derived.Test.YtbjbncmhnhlkpaaMarkByte
namespace Go.Proofs.Ytbjbncmhnhlkpaa
open Go.ChangeShapes Go.WideShapes Go.ChangeAt Go.RowKit
set_option linter.unusedVariables false

set_option maxRecDepth 100000 in
set_option maxHeartbeats 1000000 in
theorem fnExactMix_walk (A0 : Option Addr) (n0 c0 : Nat) (l0 : List UInt8) (A1 : Option Addr) (n1 c1 : Nat) (l1 : List UInt8) (A2 : Option Addr) (n2 c2 : Nat) (l2 : List UInt8) (w : World) (w0 : Rd w A0 n0 c0 (bv l0)) (w1 : Rd w A1 n1 c1 (bv l1)) (w2 : Rd w A2 n2 c2 (bv l2)) :
    Calls Try.prog 7 #[.slice A0 n0 c0, .slice A1 n1 c1, .slice A2 n2 c2] w fun e w' => e = .returned (.bool true) ∧ Below w.heap.size w w' := by
  by_cases hn0 : n0 ≤ 1048576
  rotate_left
  · have hb0 := w0.bnd
    go_enter Try.func7, Try.ntmps7
    go_wp2_with fail
    go_ret
    exact ⟨rfl, Below.refl _ _⟩
  by_cases hn1 : n1 ≤ 1048576
  rotate_left
  · have hb1 := w1.bnd
    go_enter Try.func7, Try.ntmps7
    go_wp2_with fail
    go_ret
    exact ⟨rfl, Below.refl _ _⟩
  by_cases hn2 : n2 ≤ 1048576
  rotate_left
  · have hb2 := w2.bnd
    go_enter Try.func7, Try.ntmps7
    go_wp2_with fail
    go_ret
    exact ⟨rfl, Below.refl _ _⟩
  have hb0 := w0.bnd
  have hb1 := w1.bnd
  have hb2 := w2.bnd
  have B : Below w.heap.size w w := Below.refl _ _
  go_enter Try.func7, Try.ntmps7
  go_wp2_with fail
  refine (L_toByteS _ _ _ l0 _ (w0.below B (Nat.le_refl _)) hn0).mono ?_
  rintro e W1 ⟨A_1, n_1, c_1, rfl, o1, b1⟩
  replace B := bnext B b1
  have s1 := b1.size
  have hn_1 : n_1 ≤ 1048576 := by have h1 := o1.rd.len; rw [bv_len] at h1; have h2 := w0.len; rw [bv_len] at h2; omega
  go_wp2_with fail
  refine (L_toByteS _ _ _ l1 _ (w1.below B (Nat.le_refl _)) hn1).mono ?_
  rintro e W2 ⟨A_2, n_2, c_2, rfl, o2, b2⟩
  replace o1 := o1.below b2 (by omega)
  replace B := bnext B b2
  have s2 := b2.size
  have hn_2 : n_2 ≤ 1048576 := by have h1 := o2.rd.len; rw [bv_len] at h1; have h2 := w1.len; rw [bv_len] at h2; omega
  go_wp2_with fail
  refine (L_toByteS _ _ _ l2 _ (w2.below B (Nat.le_refl _)) hn2).mono ?_
  rintro e W3 ⟨A_3, n_3, c_3, rfl, o3, b3⟩
  replace o1 := o1.below b3 (by omega)
  replace o2 := o2.below b3 (by omega)
  replace B := bnext B b3
  have s3 := b3.size
  have hn_3 : n_3 ≤ 1048576 := by have h1 := o3.rd.len; rw [bv_len] at h1; have h2 := w2.len; rw [bv_len] at h2; omega
  go_wp2_with fail
  refine (S_Mix _ _ _ _ _ _ _ _ _ l0 l1 l2 _ o1.rd o2.rd o3.rd).mono ?_
  rintro e W4 ⟨A_4, n_4, c_4, rfl, o4, b4⟩
  replace o1 := o1.below b4 (by omega)
  replace o2 := o2.below b4 (by omega)
  replace o3 := o3.below b4 (by omega)
  replace B := bnext B b4
  have s4 := b4.size
  have hn_4 : n_4 ≤ 1048576 := by have h1 := o4.rd.len; rw [bv_len] at h1; have h2 := mixL_le l0 l1 l2; have h3 := w2.len; rw [bv_len] at h3; omega
  clear o1
  clear o2
  clear o3
  go_wp2_with fail
  refine (L_toByteS _ _ _ l0 _ (w0.below B (Nat.le_refl _)) hn0).mono ?_
  rintro e W5 ⟨A_5, n_5, c_5, rfl, o5, b5⟩
  replace o4 := o4.below b5 (by omega)
  replace B := bnext B b5
  have s5 := b5.size
  have hn_5 : n_5 ≤ 1048576 := by have h1 := o5.rd.len; rw [bv_len] at h1; have h2 := w0.len; rw [bv_len] at h2; omega
  go_wp2_with fail
  refine (L_toByteS _ _ _ l1 _ (w1.below B (Nat.le_refl _)) hn1).mono ?_
  rintro e W6 ⟨A_6, n_6, c_6, rfl, o6, b6⟩
  replace o4 := o4.below b6 (by omega)
  replace o5 := o5.below b6 (by omega)
  replace B := bnext B b6
  have s6 := b6.size
  have hn_6 : n_6 ≤ 1048576 := by have h1 := o6.rd.len; rw [bv_len] at h1; have h2 := w1.len; rw [bv_len] at h2; omega
  go_wp2_with fail
  refine (L_toByteS _ _ _ l2 _ (w2.below B (Nat.le_refl _)) hn2).mono ?_
  rintro e W7 ⟨A_7, n_7, c_7, rfl, o7, b7⟩
  replace o4 := o4.below b7 (by omega)
  replace o5 := o5.below b7 (by omega)
  replace o6 := o6.below b7 (by omega)
  replace B := bnext B b7
  have s7 := b7.size
  have hn_7 : n_7 ≤ 1048576 := by have h1 := o7.rd.len; rw [bv_len] at h1; have h2 := w2.len; rw [bv_len] at h2; omega
  go_wp2_with fail
  refine (I_Mix _ _ _ _ _ _ _ _ _ l0 l1 l2 _ o5.rd o6.rd o7.rd).mono ?_
  rintro e W8 ⟨A_8, n_8, c_8, rfl, o8, b8⟩
  replace o4 := o4.below b8 (by omega)
  replace o5 := o5.below b8 (by omega)
  replace o6 := o6.below b8 (by omega)
  replace o7 := o7.below b8 (by omega)
  replace B := bnext B b8
  have s8 := b8.size
  have hn_8 : n_8 ≤ 1048576 := by have h1 := o8.rd.len; rw [bv_len] at h1; have h2 := mixL_le l0 l1 l2; have h3 := w2.len; rw [bv_len] at h3; omega
  go_wp2_with fail
  refine (L_eqByteS_same _ _ _ _ _ _ _ _ o8.rd o4.rd).mono ?_
  rintro e W9 ⟨rfl, b9⟩
  replace o4 := o4.below b9 (by omega)
  replace o5 := o5.below b9 (by omega)
  replace o6 := o6.below b9 (by omega)
  replace o7 := o7.below b9 (by omega)
  replace o8 := o8.below b9 (by omega)
  replace B := bnext B b9
  have s9 := b9.size
  go_wp2_with fail
  refine (L_toByteS _ _ _ l0 _ (w0.below B (Nat.le_refl _)) hn0).mono ?_
  rintro e W10 ⟨A_9, n_9, c_9, rfl, o9, b10⟩
  replace o4 := o4.below b10 (by omega)
  replace o5 := o5.below b10 (by omega)
  replace o6 := o6.below b10 (by omega)
  replace o7 := o7.below b10 (by omega)
  replace o8 := o8.below b10 (by omega)
  replace B := bnext B b10
  have s10 := b10.size
  have hn_9 : n_9 ≤ 1048576 := by have h1 := o9.rd.len; rw [bv_len] at h1; have h2 := w0.len; rw [bv_len] at h2; omega
  go_wp2_with fail
  refine (L_eqByteS_same _ _ _ _ _ _ l0 _ o5.rd o9.rd).mono ?_
  rintro e W11 ⟨rfl, b11⟩
  replace o4 := o4.below b11 (by omega)
  replace o5 := o5.below b11 (by omega)
  replace o6 := o6.below b11 (by omega)
  replace o7 := o7.below b11 (by omega)
  replace o8 := o8.below b11 (by omega)
  replace o9 := o9.below b11 (by omega)
  replace B := bnext B b11
  have s11 := b11.size
  clear o9
  go_wp2_with fail
  refine (L_toByteS _ _ _ l1 _ (w1.below B (Nat.le_refl _)) hn1).mono ?_
  rintro e W12 ⟨A_10, n_10, c_10, rfl, o10, b12⟩
  replace o4 := o4.below b12 (by omega)
  replace o5 := o5.below b12 (by omega)
  replace o6 := o6.below b12 (by omega)
  replace o7 := o7.below b12 (by omega)
  replace o8 := o8.below b12 (by omega)
  replace B := bnext B b12
  have s12 := b12.size
  have hn_10 : n_10 ≤ 1048576 := by have h1 := o10.rd.len; rw [bv_len] at h1; have h2 := w1.len; rw [bv_len] at h2; omega
  go_wp2_with fail
  refine (L_eqByteS_same _ _ _ _ _ _ l1 _ o6.rd o10.rd).mono ?_
  rintro e W13 ⟨rfl, b13⟩
  replace o4 := o4.below b13 (by omega)
  replace o5 := o5.below b13 (by omega)
  replace o6 := o6.below b13 (by omega)
  replace o7 := o7.below b13 (by omega)
  replace o8 := o8.below b13 (by omega)
  replace o10 := o10.below b13 (by omega)
  replace B := bnext B b13
  have s13 := b13.size
  clear o10
  go_wp2_with fail
  refine (L_toByteS _ _ _ l2 _ (w2.below B (Nat.le_refl _)) hn2).mono ?_
  rintro e W14 ⟨A_11, n_11, c_11, rfl, o11, b14⟩
  replace o4 := o4.below b14 (by omega)
  replace o5 := o5.below b14 (by omega)
  replace o6 := o6.below b14 (by omega)
  replace o7 := o7.below b14 (by omega)
  replace o8 := o8.below b14 (by omega)
  replace B := bnext B b14
  have s14 := b14.size
  have hn_11 : n_11 ≤ 1048576 := by have h1 := o11.rd.len; rw [bv_len] at h1; have h2 := w2.len; rw [bv_len] at h2; omega
  go_wp2_with fail
  refine (L_eqByteS_same _ _ _ _ _ _ l2 _ o7.rd o11.rd).mono ?_
  rintro e W15 ⟨rfl, b15⟩
  replace o4 := o4.below b15 (by omega)
  replace o5 := o5.below b15 (by omega)
  replace o6 := o6.below b15 (by omega)
  replace o7 := o7.below b15 (by omega)
  replace o8 := o8.below b15 (by omega)
  replace o11 := o11.below b15 (by omega)
  replace B := bnext B b15
  have s15 := b15.size
  clear o11
  go_wp2_with fail
  refine (L_markByteS _ _ _ _ _ _ 1 _ o5 (by omega)).mono ?_
  rintro e W16 ⟨rfl, p5, g16⟩
  replace B := grown_next B o5 (by omega) g16
  replace o4 := o4.grown g16 o5.rng (by omega)
  replace o6 := o6.grown g16 o5.rng (by omega)
  replace o7 := o7.grown g16 o5.rng (by omega)
  replace o8 := o8.grown g16 o5.rng (by omega)
  clear o5; have o5 := p5; clear p5
  have s16 := g16.size
  go_wp2_with fail
  refine (L_markByteS _ _ _ _ _ _ (1 + n_5) _ o6 (by omega)).mono ?_
  rintro e W17 ⟨rfl, p6, g17⟩
  replace B := grown_next B o6 (by omega) g17
  replace o4 := o4.grown g17 o6.rng (by omega)
  replace o5 := o5.grown g17 o6.rng (by omega)
  replace o7 := o7.grown g17 o6.rng (by omega)
  replace o8 := o8.grown g17 o6.rng (by omega)
  clear o6; have o6 := p6; clear p6
  have s17 := g17.size
  go_wp2_with fail
  refine (L_markByteS _ _ _ _ _ _ (1 + n_5 + n_6) _ o7 (by omega)).mono ?_
  rintro e W18 ⟨rfl, p7, g18⟩
  replace B := grown_next B o7 (by omega) g18
  replace o4 := o4.grown g18 o7.rng (by omega)
  replace o5 := o5.grown g18 o7.rng (by omega)
  replace o6 := o6.grown g18 o7.rng (by omega)
  replace o8 := o8.grown g18 o7.rng (by omega)
  clear o7; have o7 := p7; clear p7
  have s18 := g18.size
  go_wp2_with fail
  refine (L_eqByteS_same _ _ _ _ _ _ _ _ o8.rd o4.rd).mono ?_
  rintro e W19 ⟨rfl, b19⟩
  replace o4 := o4.below b19 (by omega)
  replace o5 := o5.below b19 (by omega)
  replace o6 := o6.below b19 (by omega)
  replace o7 := o7.below b19 (by omega)
  replace o8 := o8.below b19 (by omega)
  replace B := bnext B b19
  have s19 := b19.size
  go_wp2_with fail
  refine (L_markByteS _ _ _ _ _ _ 1 _ o8 (by omega)).mono ?_
  rintro e W20 ⟨rfl, p8, g20⟩
  replace B := grown_next B o8 (by omega) g20
  replace o4 := o4.grown g20 o8.rng (by omega)
  replace o5 := o5.grown g20 o8.rng (by omega)
  replace o6 := o6.grown g20 o8.rng (by omega)
  replace o7 := o7.grown g20 o8.rng (by omega)
  clear o8; have o8 := p8; clear p8
  have s20 := g20.size
  go_wp2_with fail
  refine (L_heldByteS _ _ _ 1 _ o8.rd (by omega)).mono ?_
  rintro e w_ ⟨rfl, rfl⟩
  clear o5
  clear o6
  clear o7
  go_wp2_with fail
  refine (L_toByteS _ _ _ l0 _ (w0.below B (Nat.le_refl _)) hn0).mono ?_
  rintro e W21 ⟨A_12, n_12, c_12, rfl, o12, b21⟩
  replace o4 := o4.below b21 (by omega)
  replace o8 := o8.below b21 (by omega)
  replace B := bnext B b21
  have s21 := b21.size
  have hn_12 : n_12 ≤ 1048576 := by have h1 := o12.rd.len; rw [bv_len] at h1; have h2 := w0.len; rw [bv_len] at h2; omega
  go_wp2_with fail
  refine (L_toByteS _ _ _ l1 _ (w1.below B (Nat.le_refl _)) hn1).mono ?_
  rintro e W22 ⟨A_13, n_13, c_13, rfl, o13, b22⟩
  replace o4 := o4.below b22 (by omega)
  replace o8 := o8.below b22 (by omega)
  replace o12 := o12.below b22 (by omega)
  replace B := bnext B b22
  have s22 := b22.size
  have hn_13 : n_13 ≤ 1048576 := by have h1 := o13.rd.len; rw [bv_len] at h1; have h2 := w1.len; rw [bv_len] at h2; omega
  go_wp2_with fail
  refine (L_toByteS _ _ _ l2 _ (w2.below B (Nat.le_refl _)) hn2).mono ?_
  rintro e W23 ⟨A_14, n_14, c_14, rfl, o14, b23⟩
  replace o4 := o4.below b23 (by omega)
  replace o8 := o8.below b23 (by omega)
  replace o12 := o12.below b23 (by omega)
  replace o13 := o13.below b23 (by omega)
  replace B := bnext B b23
  have s23 := b23.size
  have hn_14 : n_14 ≤ 1048576 := by have h1 := o14.rd.len; rw [bv_len] at h1; have h2 := w2.len; rw [bv_len] at h2; omega
  go_wp2_with fail
  refine (I_Mix _ _ _ _ _ _ _ _ _ l0 l1 l2 _ o12.rd o13.rd o14.rd).mono ?_
  rintro e W24 ⟨A_15, n_15, c_15, rfl, o15, b24⟩
  replace o4 := o4.below b24 (by omega)
  replace o8 := o8.below b24 (by omega)
  replace o12 := o12.below b24 (by omega)
  replace o13 := o13.below b24 (by omega)
  replace o14 := o14.below b24 (by omega)
  replace B := bnext B b24
  have s24 := b24.size
  have hn_15 : n_15 ≤ 1048576 := by have h1 := o15.rd.len; rw [bv_len] at h1; have h2 := mixL_le l0 l1 l2; have h3 := w2.len; rw [bv_len] at h3; omega
  clear o12
  clear o13
  clear o14
  go_wp2_with fail
  refine (L_eqByteS_same _ _ _ _ _ _ _ _ o15.rd o4.rd).mono ?_
  rintro e W25 ⟨rfl, b25⟩
  replace o4 := o4.below b25 (by omega)
  replace o8 := o8.below b25 (by omega)
  replace o15 := o15.below b25 (by omega)
  replace B := bnext B b25
  have s25 := b25.size
  go_wp2_with fail
  refine (L_heldByteS _ _ _ 1 _ o8.rd (by omega)).mono ?_
  rintro e w_ ⟨rfl, rfl⟩
  go_wp2_with fail
  go_ret
  exact ⟨rfl, B⟩

set_option maxRecDepth 100000 in
theorem fnExactMix_lifted (os : Os) (started : os.Started) (H : Type) (enc : TypeId × Value → H) :
    ReturnsInHanded {} Try.checked os 7 .any (Rows.fnExactMixSpec.pre6 enc Try.prog Try.f7 Rows.fnExactMixRow.domain false) (Rows.fnExactMixSpec.post enc Try.prog Try.f7 false true false false) := by
  refine returnsInHanded_of_change (C := Try.checked) own started (by kernel_rfl) Try.func7
    (ChangeSpec.witness6 (enc := enc) (C := Try.checked) false ⟨#[], #[.slice none 0 0, .slice none 0 0, .slice none 0 0], []⟩ 8 (by kernel_rfl) (by kernel_rfl) (by kernel_rfl) (by kernel_rfl)) ?_
  intro W base args ds gs before hval0 hW hcnd _
  have hval : ∀ (j : Nat) t v, Try.f7.params[j]? = some t → args[j]? = some v → Value.okWide Try.prog W .any base t v := hval0
  have hW' := hW
  obtain ⟨p, q, hA0, hV, rfl, hfz, hnd⟩ := hW
  have hA : DataW.TrodAll enc Try.prog W 0 (fun _ => true) true Try.f7.params.toList args.toList ds p := hA0
  rw [Try.params7] at hA hval
  obtain ⟨v0, vs0, d0, ds0, p0, q0, hargs, rfl, rfl, h0, r0⟩ := trodAll_cons hA
  obtain ⟨v1, vs1, d1, ds1, p1, q1, rfl, rfl, rfl, h1, r1⟩ := trodAll_cons r0
  obtain ⟨v2, vs2, d2, ds2, p2, q2, rfl, rfl, rfl, h2, r2⟩ := trodAll_cons r1
  obtain ⟨rfl, rfl, rfl⟩ := trodAll_nil r2
  obtain rfl : args = #[v0, v1, v2] := by cases args; simp_all
  obtain ⟨rfl, rfl⟩ := trodVars_none hV
  have k0 := h0
  have lt0 : ∀ x ∈ p0, x.block < W.heap.size := by obtain ⟨m, hm⟩ := k0; exact DataW.trod_lt m _ _ _ hm
  obtain ⟨A0, n0, c0, rfl⟩ := okWide_slice Try.underlying22 (hval 0 22 v0 rfl rfl)
  obtain ⟨l0, w0⟩ : ∃ l, Rd W A0 n0 c0 (bv l) := by
    obtain ⟨fuel, hf⟩ := h0
    exact open_bytes Try.underlying22 Try.underlying5 (by kernel_rfl) (by simpa [Value.cells] using hf)
  have k1 := h1
  have lt1 : ∀ x ∈ p1, x.block < W.heap.size := by obtain ⟨m, hm⟩ := k1; exact DataW.trod_lt m _ _ _ hm
  obtain ⟨A1, n1, c1, rfl⟩ := okWide_slice Try.underlying22 (hval 1 22 v1 rfl rfl)
  obtain ⟨l1, w1⟩ : ∃ l, Rd W A1 n1 c1 (bv l) := by
    obtain ⟨fuel, hf⟩ := h1
    exact open_bytes Try.underlying22 Try.underlying5 (by kernel_rfl) (by simpa [Value.cells] using hf)
  have k2 := h2
  have lt2 : ∀ x ∈ p2, x.block < W.heap.size := by obtain ⟨m, hm⟩ := k2; exact DataW.trod_lt m _ _ _ hm
  obtain ⟨A2, n2, c2, rfl⟩ := okWide_slice Try.underlying22 (hval 2 22 v2 rfl rfl)
  obtain ⟨l2, w2⟩ : ∃ l, Rd W A2 n2 c2 (bv l) := by
    obtain ⟨fuel, hf⟩ := h2
    exact open_bytes Try.underlying22 Try.underlying5 (by kernel_rfl) (by simpa [Value.cells] using hf)
  clear hA0 hval0
  refine (fnExactMix_walk A0 n0 c0 l0 A1 n1 c1 l1 A2 n2 c2 l2 W w0 w1 w2).mono fun e W' ⟨he, bel⟩ => ?_
  subst he
  exact ⟨_, rfl, _, _, _, [], _, [], hW', trodAll_mk1 (shut_bool Try.underlying4 _), (trodAll_cons_mk (Below.trod laidOut (by kernel_rfl) (of_decide_eq_true (by kernel_rfl)) k0 bel lt0) (trodAll_cons_mk (Below.trod laidOut (by kernel_rfl) (of_decide_eq_true (by kernel_rfl)) k1 bel lt1) (trodAll_cons_mk (Below.trod laidOut (by kernel_rfl) (of_decide_eq_true (by kernel_rfl)) k2 bel lt2) trodAll_mk0))), rfl, bel.frame _, fun h => by cases h⟩

theorem fnExactMix_over : Rows.fnExactMixRow.holds Try.pinned (OpenSpec.ofChange Rows.fnExactMixSpec) :=
  OpenClaim.holds_of_wide 7 Try.f7 rfl rfl rfl rfl rfl rfl rfl ⟨rfl, rfl, rfl, rfl, rfl⟩ rfl rfl rfl rfl rfl (by kernel_rfl) Try.func7 (by kernel_rfl)
    (of_decide_eq_true (by kernel_rfl)) (by unfold Func.isWrapper; first | (rw [if_pos (by decide +kernel)]; kernel_rfl) | (rw [if_neg (by decide +kernel)]; exact ⟨rfl, rfl⟩))
    (fun os started H enc _ => fnExactMix_lifted os started H enc)

/-- The statement. -/
theorem fnExactMix_proved : Rows.FnExactMixSaid := fnExactMix_over
#print axioms fnExactMix_proved
end Go.Proofs.Ytbjbncmhnhlkpaa
