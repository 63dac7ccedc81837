/- Proved: for every input that reads as data, laws.FnExactHashEnd of the given program returns true and leaves its arguments as they read. No condition of its own. -/
import Derived.Test.YtfhpigfoeejhlaaBase
import Derived.Test.YtfhpigfoeejhlaaHashS
import Derived.Test.YtfhpigfoeejhlaaShaI3
import Derived.Test.YtfhpigfoeejhlaaToHash
import Derived.Test.YtfhpigfoeejhlaaToByte
import Derived.Test.YtfhpigfoeejhlaaToInt
import Derived.Test.YtfhpigfoeejhlaaEqByte
import Derived.Test.YtfhpigfoeejhlaaEqInt
import Derived.Test.YtfhpigfoeejhlaaMarkByte
import Derived.Test.YtfhpigfoeejhlaaMarkInt
namespace Go.Proofs.Ytfhpigfoeejhlaa
open Go.ChangeShapes Go.WideShapes Go.ChangeAt Go.RowKit
set_option linter.unusedVariables false

set_option maxRecDepth 100000 in
set_option maxHeartbeats 2000000 in
theorem fnExactHashEnd_walk (A0 : Option Addr) (n0 c0 : Nat) (l0 : List Int) (B0 : Option Addr) (m0 d0 : Nat) (k0 : List UInt8) (a0 : Int) (w : World) (w0 : Rd w A0 n0 c0 (iv l0)) (x0 : ∀ z ∈ l0, -9223372036854775808 ≤ z ∧ z ≤ 9223372036854775807) (y0 : Rd w B0 m0 d0 (bv k0)) (z0 : -9223372036854775808 ≤ a0 ∧ a0 ≤ 9223372036854775807) :
    Calls Try.prog 9 #[.agg #[.slice A0 n0 c0, .slice B0 m0 d0, .int .i64 a0]] w fun e w' => e = .returned (.bool true) ∧ Below w.heap.size w w' := by
  by_cases hs0 : n0 + m0 ≤ 1048576
  rotate_left
  · have hb0 := w0.bnd; have hc0 := y0.bnd
    go_enter Try.func9, Try.ntmps9
    go_wp2_with fail
    refine (L_szHash_no _ _ _ _ _ _ _ _ hs0 hb0 hc0).mono ?_
    rintro e W1 ⟨rfl, b1⟩
    go_wp2_with fail
    go_ret
    exact ⟨rfl, bnext (balloc (Below.refl _ _) _) b1⟩
  have hb0 := w0.bnd; have hc0 := y0.bnd
  have B : Below w.heap.size w w := Below.refl _ _
  obtain ⟨W1, hW1⟩ : ∃ V, V = w.alloc (.cells #[.slice A0 n0 c0, .slice B0 m0 d0, .int .i64 a0] 25) := ⟨_, rfl⟩
  have b1 : Below w.heap.size w W1 := by rw [hW1]; exact (Below.refl _ _).alloc (Nat.le_refl _) _
  have z1 : w.heap.size < W1.heap.size := by rw [hW1]; simp
  have X1 : Bx W1 w.heap.size (.slice A0 n0 c0) (.slice B0 m0 d0) (.int .i64 a0) := by rw [hW1]; exact Bx.new _ _ _ _ _
  have HW1 := Lib.hid hW1; clear hW1
  replace B := bnext B b1
  go_enter Try.func9, Try.ntmps9
  go_wp2_with fail
  rw [← HW1.out]
  clear HW1
  refine (L_szHash_yes _ _ _ _ _ _ _ _ hs0).mono ?_
  rintro e W2 ⟨rfl, b2⟩
  have s2 := b2.size
  replace X1 := X1.below b2 (by omega)
  replace B := bnext B b2
  obtain ⟨xa1, xb1, xc1⟩ := id X1
  go_wp2_with fail
  clear xa1 xb1 xc1
  refine (L_toHash _ _ _ _ _ _ l0 k0 a0 _ (w0.below B (Nat.le_refl _)) (y0.below B (Nat.le_refl _)) (by omega)).mono ?_
  rintro e W3 ⟨A_3, n_3, c_3, B_3, m_3, d_3, rfl, o3, b3⟩
  have s3 := b3.size
  replace X1 := X1.below b3 (by omega)
  replace B := bnext B b3
  have hn_3 : n_3 ≤ 1048576 := by have h1 := o3.ints.rd.len; rw [iv_len] at h1; have h2 := w0.len; rw [iv_len] at h2; omega
  have hm_3 : m_3 ≤ 1048576 := by have h1 := o3.bytes.rd.len; rw [bv_len] at h1; have h2 := y0.len; rw [bv_len] at h2; omega
  obtain ⟨xa1, xb1, xc1⟩ := id X1
  go_wp2_with fail
  clear xa1 xb1 xc1
  refine (S_HashEnd _ _ _ _ _ _ l0 k0 a0 _ o3.ints.rd o3.bytes.rd (by omega)).mono ?_
  rintro e W4 ⟨A_4, n_4, c_4, rfl, o4, b4⟩
  have s4 := b4.size
  replace o3 := o3.below b4 (by omega)
  replace X1 := X1.below b4 (by omega)
  replace B := bnext B b4
  have hn_4 : n_4 ≤ 1048576 := by have h1 := o4.rd.len; rw [bv_len] at h1; have h2 := hashEnd_len l0 k0 a0; omega
  clear o3
  obtain ⟨xa1, xb1, xc1⟩ := id X1
  go_wp2_with fail
  clear xa1 xb1 xc1
  refine (L_toHash _ _ _ _ _ _ l0 k0 a0 _ (w0.below B (Nat.le_refl _)) (y0.below B (Nat.le_refl _)) (by omega)).mono ?_
  rintro e W5 ⟨A_5, n_5, c_5, B_5, m_5, d_5, rfl, o5, b5⟩
  have s5 := b5.size
  replace o4 := o4.below b5 (by omega)
  replace X1 := X1.below b5 (by omega)
  replace B := bnext B b5
  have hn_5 : n_5 ≤ 1048576 := by have h1 := o5.ints.rd.len; rw [iv_len] at h1; have h2 := w0.len; rw [iv_len] at h2; omega
  have hm_5 : m_5 ≤ 1048576 := by have h1 := o5.bytes.rd.len; rw [bv_len] at h1; have h2 := y0.len; rw [bv_len] at h2; omega
  obtain ⟨xa1, xb1, xc1⟩ := id X1
  have y6_1 : w.heap.size < W5.heap.size := by omega
  obtain ⟨W6, hW6⟩ : ∃ V, V = W5.alloc (.cells #[.slice A_5 n_5 c_5, .slice B_5 m_5 d_5, .int .i64 a0] 28) := ⟨_, rfl⟩
  have b6 : Below W5.heap.size W5 W6 := by rw [hW6]; exact (Below.refl _ _).alloc (Nat.le_refl _) _
  have z6 : W5.heap.size < W6.heap.size := by rw [hW6]; simp
  have X6 : Bx W6 W5.heap.size (.slice A_5 n_5 c_5) (.slice B_5 m_5 d_5) (.int .i64 a0) := by rw [hW6]; exact Bx.new _ _ _ _ _
  have HW6 := Lib.hid hW6; clear hW6
  replace o4 := o4.below b6 (by omega)
  replace o5 := o5.below b6 (by omega)
  replace X1 := X1.below b6 (by omega)
  replace B := bnext B b6
  go_wp2_with fail
  rw [← HW6.out]
  clear HW6
  clear xa1 xb1 xc1 y6_1
  refine (I_HashEnd _ _ _ _ _ _ l0 k0 a0 _ o5.ints.rd o5.bytes.rd (by omega)).mono ?_
  rintro e W7 ⟨A_7, n_7, c_7, rfl, o7, b7⟩
  have s7 := b7.size
  replace o4 := o4.below b7 (by omega)
  replace o5 := o5.below b7 (by omega)
  replace X1 := X1.below b7 (by omega)
  replace X6 := X6.below b7 (by omega)
  replace B := bnext B b7
  have hn_7 : n_7 ≤ 1048576 := by have h1 := o7.rd.len; rw [bv_len] at h1; have h2 := hashEnd_len l0 k0 a0; omega
  obtain ⟨xa1, xb1, xc1⟩ := id X1
  obtain ⟨xa6, xb6, xc6⟩ := id X6
  go_wp2_with fail
  clear xa1 xb1 xc1 xa6 xb6 xc6
  refine (L_eqByteS_same _ _ _ _ _ _ _ _ o7.rd o4.rd).mono ?_
  rintro e W8 ⟨rfl, b8⟩
  have s8 := b8.size
  replace o4 := o4.below b8 (by omega)
  replace o5 := o5.below b8 (by omega)
  replace o7 := o7.below b8 (by omega)
  replace X1 := X1.below b8 (by omega)
  replace X6 := X6.below b8 (by omega)
  replace B := bnext B b8
  obtain ⟨xa1, xb1, xc1⟩ := id X1
  obtain ⟨xa6, xb6, xc6⟩ := id X6
  go_wp2_with fail
  clear xa1 xb1 xc1 xa6 xb6 xc6
  obtain ⟨ea0, ea1, ea2⟩ := id X1; obtain ⟨eb0, eb1, eb2⟩ := id X6
  have ga : w.heap.size < W8.heap.size := by omega
  have gb : W5.heap.size < W8.heap.size := by omega
  have BD := bdrew B
  have rA := w0.below BD (Nat.le_refl _); have rB := y0.below BD (Nat.le_refl _)
  have oD := o5.below (bdrew (Below.refl _ W8)) (by omega)
  have hXX : W5.heap.size ≤ W8.drew.heap.size := by show _ ≤ W8.heap.size; omega
  go_region_held3 (fun w' => w'.cell? ⟨w.heap.size, 0, none⟩ = some (.slice A0 n0 c0) ∧ w'.cell? ⟨w.heap.size, 1, none⟩ = some (.slice B0 m0 d0) ∧ w'.cell? ⟨w.heap.size, 2, none⟩ = some (.int .i64 a0) ∧ w'.cell? ⟨W5.heap.size, 0, none⟩ = some (.slice A_5 n_5 c_5) ∧ w'.cell? ⟨W5.heap.size, 1, none⟩ = some (.slice B_5 m_5 d_5) ∧ w'.cell? ⟨W5.heap.size, 2, none⟩ = some (.int .i64 a0))
    (first | exact ⟨ea0, ea1, ea2, eb0, eb1, eb2⟩ | exact ⟨fa0, fa1, fa2, fb0, fb1, fb2⟩ | exact ⟨ua0, ua1, ua2, ub0, ub1, ub2⟩)
    (first
      | (go_at_call 17; refine (L_toHash _ _ _ _ _ _ l0 k0 a0 _ rA rB hs0).mono ?_; rintro e W9 ⟨A_9, n_9, c_9, B_9, m_9, d_9, rfl, o9, b9⟩; have fa0 := (b9.cell (p := ⟨w.heap.size, 0, none⟩) ga).trans ea0; have fa1 := (b9.cell (p := ⟨w.heap.size, 1, none⟩) ga).trans ea1; have fa2 := (b9.cell (p := ⟨w.heap.size, 2, none⟩) ga).trans ea2; have fb0 := (b9.cell (p := ⟨W5.heap.size, 0, none⟩) gb).trans eb0; have fb1 := (b9.cell (p := ⟨W5.heap.size, 1, none⟩) gb).trans eb1; have fb2 := (b9.cell (p := ⟨W5.heap.size, 2, none⟩) gb).trans eb2; have oX := oD.below b9 hXX; have ja := Nat.lt_of_lt_of_le ga b9.size; have jb := Nat.lt_of_lt_of_le gb b9.size)
      | (go_at_call 19; refine (L_eqHash_same _ _ _ _ _ _ _ _ _ _ _ _ _ _ _ _ oX.ints.rd oX.bytes.rd o9.ints.rd o9.bytes.rd).mono ?_; rintro e W10 ⟨rfl, b10⟩; have ua0 := (b10.cell (p := ⟨w.heap.size, 0, none⟩) ja).trans fa0; have ua1 := (b10.cell (p := ⟨w.heap.size, 1, none⟩) ja).trans fa1; have ua2 := (b10.cell (p := ⟨w.heap.size, 2, none⟩) ja).trans fa2; have ub0 := (b10.cell (p := ⟨W5.heap.size, 0, none⟩) jb).trans fb0; have ub1 := (b10.cell (p := ⟨W5.heap.size, 1, none⟩) jb).trans fb1; have ub2 := (b10.cell (p := ⟨W5.heap.size, 2, none⟩) jb).trans fb2))
  have bt : Below W8.heap.size W8 W10 := bnext (bnext (bdrew (Below.refl _ _)) b9) b10
  have s10 := bt.size
  clear ea0 ea1 ea2 eb0 eb1 eb2 fa0 fa1 fa2 fb0 fb1 fb2 ua0 ua1 ua2 ub0 ub1 ub2 oX oD BD rA rB ga gb ja jb hXX o9 b9 b10
  replace o4 := o4.below bt (by omega)
  replace o5 := o5.below bt (by omega)
  replace o7 := o7.below bt (by omega)
  replace X1 := X1.below bt (by omega)
  replace X6 := X6.below bt (by omega)
  replace B := bnext B bt
  clear bt
  obtain ⟨xa1, xb1, xc1⟩ := id X1
  obtain ⟨xa6, xb6, xc6⟩ := id X6
  go_wp2_with fail
  clear xa1 xb1 xc1 xa6 xb6 xc6
  refine (L_markHash _ _ _ _ _ _ _ _ _ _ _ 1 _ o5 (by omega) (by omega)).mono ?_
  rintro e W11 ⟨rfl, p5, g11⟩
  replace B := grown2_next B g11 o5.rng (by omega)
  replace o4 := o4.grown2 g11 o5.rng (by omega)
  replace o7 := o7.grown2 g11 o5.rng (by omega)
  replace X1 := X1.grown2 g11 o5.rng (by omega)
  replace X6 := X6.grown2 g11 o5.rng (by omega)
  clear o5; have o5 := p5; clear p5; have s11 := g11.size
  obtain ⟨xa1, xb1, xc1⟩ := id X1
  obtain ⟨xa6, xb6, xc6⟩ := id X6
  go_wp2_with fail
  clear xa1 xb1 xc1 xa6 xb6 xc6
  refine (L_eqByteS_same _ _ _ _ _ _ _ _ o7.rd o4.rd).mono ?_
  rintro e W12 ⟨rfl, b12⟩
  have s12 := b12.size
  replace o4 := o4.below b12 (by omega)
  replace o5 := o5.below b12 (by omega)
  replace o7 := o7.below b12 (by omega)
  replace X1 := X1.below b12 (by omega)
  replace X6 := X6.below b12 (by omega)
  replace B := bnext B b12
  clear o5
  clear X6
  obtain ⟨xa1, xb1, xc1⟩ := id X1
  go_wp2_with fail
  clear xa1 xb1 xc1
  refine (L_markByteS _ _ _ _ _ _ 1 _ o7 (by omega)).mono ?_
  rintro e W13 ⟨rfl, p7, g13'⟩
  have g13 := grown2_of g13'; clear g13'
  replace B := grown2_next B g13 (rng_one o7.rng) (by omega)
  replace o4 := o4.grown2 g13 (rng_one o7.rng) (by omega)
  replace X1 := X1.grown2 g13 (rng_one o7.rng) (by omega)
  clear o7; have o7 := p7; clear p7; have s13 := g13.size
  obtain ⟨xa1, xb1, xc1⟩ := id X1
  go_wp2_with fail
  clear xa1 xb1 xc1
  refine (L_heldByteS _ _ _ 1 _ o7.rd (by omega)).mono ?_
  rintro e w_ ⟨rfl, rfl⟩
  obtain ⟨xa1, xb1, xc1⟩ := id X1
  go_wp2_with fail
  clear xa1 xb1 xc1
  refine (L_toHash _ _ _ _ _ _ l0 k0 a0 _ (w0.below B (Nat.le_refl _)) (y0.below B (Nat.le_refl _)) (by omega)).mono ?_
  rintro e W14 ⟨A_14, n_14, c_14, B_14, m_14, d_14, rfl, o14, b14⟩
  have s14 := b14.size
  replace o4 := o4.below b14 (by omega)
  replace o7 := o7.below b14 (by omega)
  replace X1 := X1.below b14 (by omega)
  replace B := bnext B b14
  have hn_14 : n_14 ≤ 1048576 := by have h1 := o14.ints.rd.len; rw [iv_len] at h1; have h2 := w0.len; rw [iv_len] at h2; omega
  have hm_14 : m_14 ≤ 1048576 := by have h1 := o14.bytes.rd.len; rw [bv_len] at h1; have h2 := y0.len; rw [bv_len] at h2; omega
  obtain ⟨xa1, xb1, xc1⟩ := id X1
  go_wp2_with fail
  clear xa1 xb1 xc1
  refine (I_HashEnd _ _ _ _ _ _ l0 k0 a0 _ o14.ints.rd o14.bytes.rd (by omega)).mono ?_
  rintro e W15 ⟨A_15, n_15, c_15, rfl, o15, b15⟩
  have s15 := b15.size
  replace o4 := o4.below b15 (by omega)
  replace o7 := o7.below b15 (by omega)
  replace o14 := o14.below b15 (by omega)
  replace X1 := X1.below b15 (by omega)
  replace B := bnext B b15
  have hn_15 : n_15 ≤ 1048576 := by have h1 := o15.rd.len; rw [bv_len] at h1; have h2 := hashEnd_len l0 k0 a0; omega
  clear o14
  obtain ⟨xa1, xb1, xc1⟩ := id X1
  go_wp2_with fail
  clear xa1 xb1 xc1
  refine (L_eqByteS_same _ _ _ _ _ _ _ _ o15.rd o4.rd).mono ?_
  rintro e W16 ⟨rfl, b16⟩
  have s16 := b16.size
  replace o4 := o4.below b16 (by omega)
  replace o7 := o7.below b16 (by omega)
  replace o15 := o15.below b16 (by omega)
  replace X1 := X1.below b16 (by omega)
  replace B := bnext B b16
  obtain ⟨xa1, xb1, xc1⟩ := id X1
  go_wp2_with fail
  clear xa1 xb1 xc1
  refine (L_heldByteS _ _ _ 1 _ o7.rd (by omega)).mono ?_
  rintro e w_ ⟨rfl, rfl⟩
  obtain ⟨xa1, xb1, xc1⟩ := id X1
  go_wp2_with fail
  clear xa1 xb1 xc1
  go_ret
  exact ⟨rfl, B⟩

theorem fnExactHashEnd_cellsH : Try.prog.cellsOf 25 = 3 := by kernel_rfl
set_option maxRecDepth 100000 in
theorem fnExactHashEnd_lifted (os : Os) (started : os.Started) (H : Type) (enc : TypeId × Value → H) :
    ReturnsInHanded {} Try.checked os 9 .any (Rows.fnExactHashEndSpec.pre6 enc Try.prog Try.f9 Rows.fnExactHashEndRow.domain false) (Rows.fnExactHashEndSpec.post enc Try.prog Try.f9 false true false false) := by
  refine returnsInHanded_of_change (C := Try.checked) own started (by kernel_rfl) Try.func9
    (ChangeSpec.witness6 (enc := enc) (C := Try.checked) false ⟨#[], #[.agg #[.slice none 0 0, .slice none 0 0, .int .i64 0]], []⟩ 8 (by kernel_rfl) (by kernel_rfl) (by kernel_rfl) (by kernel_rfl)) ?_
  intro W base args ds gs before hval0 hW hcnd _
  have hval : ∀ (j : Nat) t v, Try.f9.params[j]? = some t → args[j]? = some v → Value.okWide Try.prog W .any base t v := hval0
  have hW' := hW
  obtain ⟨p, q, hA0, hV, rfl, hfz, hnd⟩ := hW
  have hA : DataW.TrodAll enc Try.prog W 0 (fun _ => true) true Try.f9.params.toList args.toList ds p := hA0
  rw [Try.params9] at hA hval
  obtain ⟨v0, vs0, d0, ds0, p0, q0, hargs, rfl, rfl, h0, r0⟩ := trodAll_cons hA
  obtain ⟨rfl, rfl, rfl⟩ := trodAll_nil r0
  obtain rfl : args = #[v0] := by cases args; simp_all
  obtain ⟨rfl, rfl⟩ := trodVars_none hV
  have k0 := h0
  have lt0 : ∀ x ∈ p0, x.block < W.heap.size := by obtain ⟨m, hm⟩ := k0; exact DataW.trod_lt m _ _ _ hm
  obtain ⟨u0, u'0, t0, y0, y'0, s0, m0, rfl, rfl, rfl, g0, g'0, j0⟩ := Joins.open_agg3 Try.underlying25 (by kernel_rfl) fnExactHashEnd_cellsH (hval 0 25 v0 rfl rfl) h0
  obtain ⟨A0, n0, c0, e0⟩ := Joins.slice_form Try.underlying22 g0
  obtain ⟨B0, m'0, d'0, e'0⟩ := Joins.slice_form Try.underlying23 g'0
  simp only [List.cons.injEq, and_true] at e0 e'0
  subst e0; subst e'0
  obtain ⟨l0, w0, x0⟩ := open_nums Try.underlying22 Try.underlying3 (by kernel_rfl) g0
  obtain ⟨k'0, y''0⟩ := open_bytes Try.underlying23 Try.underlying5 (by kernel_rfl) g'0
  obtain ⟨a0, e''0, es0, z0⟩ := DataW.trod_int Try.underlying3 j0
  simp only [List.cons.injEq, and_true] at e''0
  subst e''0
  clear hA0 hval0
  refine (fnExactHashEnd_walk A0 n0 c0 l0 B0 m'0 d'0 k'0 a0 W w0 x0 y''0 (bounds64 z0)).mono fun e W' ⟨he, bel⟩ => ?_
  subst he
  exact ⟨_, rfl, _, _, _, [], _, [], hW', trodAll_mk1 (shut_bool Try.underlying4 _), (trodAll_cons_mk (Below.trod laidOut (by kernel_rfl) (of_decide_eq_true (by kernel_rfl)) k0 bel lt0) trodAll_mk0), rfl, bel.frame _, fun h => by cases h⟩

theorem fnExactHashEnd_over : Rows.fnExactHashEndRow.holds Try.pinned (OpenSpec.ofChange Rows.fnExactHashEndSpec) :=
  OpenClaim.holds_of_wide 9 Try.f9 rfl rfl rfl rfl rfl rfl rfl ⟨rfl, rfl, rfl, rfl, rfl⟩ rfl rfl rfl rfl rfl (by kernel_rfl) Try.func9 (by kernel_rfl)
    (of_decide_eq_true (by kernel_rfl)) (by unfold Func.isWrapper; first | (rw [if_pos (by decide +kernel)]; kernel_rfl) | (rw [if_neg (by decide +kernel)]; exact ⟨rfl, rfl⟩))
    (fun os started H enc _ => fnExactHashEnd_lifted os started H enc)

/-- The statement. -/
theorem fnExactHashEnd_proved : Rows.FnExactHashEndSaid := fnExactHashEnd_over
#print axioms fnExactHashEnd_proved
end Go.Proofs.Ytfhpigfoeejhlaa
