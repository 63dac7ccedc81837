/- Proved: for every input that reads as data, laws.FnExactPutAddr of the given program returns true and leaves its arguments as they read. No condition of its own. -/
import Derived.Test.YtckdipncijhedaaBase
import Derived.Test.YtckdipncijhedaaPAddr
import Derived.Test.YtckdipncijhedaaToByte
import Derived.Test.YtckdipncijhedaaEqByte
import Derived.Test.YtckdipncijhedaaMarkByte
namespace Go.Proofs.Ytckdipncijhedaa
open Go.ChangeShapes Go.WideShapes Go.ChangeAt Go.RowKit
set_option linter.unusedVariables false

set_option maxRecDepth 100000 in
set_option maxHeartbeats 1000000 in
theorem fnExactPutAddr_walk (A0 : Option Addr) (n0 c0 : Nat) (l0 : List UInt8) (a1 b1 : Int) (w : World) (w0 : Rd w A0 n0 c0 (bv l0)) (w1 : -9223372036854775808 ≤ a1 ∧ a1 ≤ 9223372036854775807) (x1 : -9223372036854775808 ≤ b1 ∧ b1 ≤ 9223372036854775807) :
    Calls Try.prog 11 #[.slice A0 n0 c0, .agg #[.int .i64 a1, .int .i64 b1]] w fun e w' => e = .returned (.bool true) ∧ Below w.heap.size w w' := by
  by_cases hn0 : n0 ≤ 1048576
  rotate_left
  · have hb0 := w0.bnd
    go_enter Try.func11, Try.ntmps11
    go_wp2_with fail
    go_ret
    exact ⟨rfl, balloc (Below.refl _ _) _⟩
  have hb0 := w0.bnd
  have hlen : (putAd l0 a1 b1).length ≤ 1048588 := by have h2 := w0.len; rw [bv_len] at h2; have h3 := putAd_len l0 a1 b1; omega
  obtain ⟨W0, hW0⟩ : ∃ W0, W0 = w.alloc (.cells #[.int .i64 a1, .int .i64 b1] 46) := ⟨_, rfl⟩
  have B : Below w.heap.size w W0 := by rw [hW0]; exact balloc (Below.refl _ _) _
  have hx0 : W0.cell? ⟨w.heap.size, 0, none⟩ = some (.int .i64 a1) := by rw [hW0]; simp [go_sem]
  have hx1 : W0.cell? ⟨w.heap.size, 1, none⟩ = some (.int .i64 b1) := by rw [hW0]; simp [go_sem]
  have hz : w.heap.size < W0.heap.size := by rw [hW0]; simp
  have HW := Lib.hid hW0
  clear hW0
  go_enter Try.func11, Try.ntmps11
  go_upto_region 1 with fail
  rw [← HW.out]
  clear HW
  go_wp2_with fail
  go_region_held3 (fun w' => w'.cell? ⟨w.heap.size, 0, none⟩ = some (.int .i64 a1) ∧ w'.cell? ⟨w.heap.size, 1, none⟩ = some (.int .i64 b1)) (first | exact ⟨hx0, hx1⟩ | exact ⟨ha0, ha1⟩ | exact ⟨hb0', hb1'⟩ | exact ⟨hd0, hd1⟩)
    (first
      | (go_at_call 16; refine (L_toByteS _ _ _ l0 _ ?_ hn0).mono ?_; (first | exact w0.below B (Nat.le_refl _) | exact (w0.below B (Nat.le_refl _)).drew | exact (w0.below B (Nat.le_refl _)).drewN _); rintro e W1 ⟨A_1, n_1, c_1, rfl, o1, q1⟩; have ha0 := (q1.cell (p := ⟨w.heap.size, 0, none⟩) hz).trans hx0; have ha1 := (q1.cell (p := ⟨w.heap.size, 1, none⟩) hz).trans hx1)
      | (go_at_call 41; refine (L_toAddr a1 b1 _).mono ?_; rintro e W2 ⟨rfl, q2⟩; have hb0' := (q2.cell (p := ⟨w.heap.size, 0, none⟩) (Nat.lt_of_lt_of_le hz q1.size)).trans ha0; have hb1' := (q2.cell (p := ⟨w.heap.size, 1, none⟩) (Nat.lt_of_lt_of_le hz q1.size)).trans ha1)
      | (go_at_call 40; refine (S_PutAddr _ _ _ l0 a1 b1 _ (o1.below q2 (Nat.le_refl _)).rd ?_).mono ?_; (have h1 := o1.rd.len; rw [bv_len] at h1; have h2 := w0.len; rw [bv_len] at h2; omega); rintro e W3 ⟨A_3, n_3, c_3, rfl, o3, q3⟩; have hd0 := (q3.cell (p := ⟨w.heap.size, 0, none⟩) (Nat.lt_of_lt_of_le (Nat.lt_of_lt_of_le hz q1.size) q2.size)).trans hb0'; have hd1 := (q3.cell (p := ⟨w.heap.size, 1, none⟩) (Nat.lt_of_lt_of_le (Nat.lt_of_lt_of_le hz q1.size) q2.size)).trans hb1'))
  replace q1 := bundrew q1
  replace o1 := o1.undrew
  have s1 := q1.size; have s2 := q2.size; have s3 := q3.size
  replace B := bnext (bnext (bnext B q1) q2) q3
  clear ha0 ha1 hb0' hb1' hx0 hx1; have hx0 := hd0; have hx1 := hd1; clear hd0 hd1 o1
  have hn_3 : n_3 ≤ 1048588 := by have h1 := o3.rd.len; rw [bv_len] at h1; omega
  go_wp2_with fail
  refine (L_toByteS _ _ _ l0 _ (w0.below B (Nat.le_refl _)) hn0).mono ?_
  rintro e W4 ⟨A_4, n_4, c_4, rfl, o4, q4⟩
  have s4 := q4.size
  replace o3 := o3.below q4 (by omega)
  replace B := bnext B q4
  replace hx0 := (q4.cell (p := ⟨w.heap.size, 0, none⟩) (by show w.heap.size < _; omega)).trans hx0; replace hx1 := (q4.cell (p := ⟨w.heap.size, 1, none⟩) (by show w.heap.size < _; omega)).trans hx1
  have hn_4 : n_4 ≤ 1048576 := by have h1 := o4.rd.len; rw [bv_len] at h1; have h2 := w0.len; rw [bv_len] at h2; omega
  go_wp2_with fail
  refine (L_toAddr a1 b1 _).mono ?_
  rintro e W5 ⟨rfl, q5⟩
  have s5 := q5.size
  replace o3 := o3.below q5 (by omega)
  replace o4 := o4.below q5 (by omega)
  replace B := bnext B q5
  replace hx0 := (q5.cell (p := ⟨w.heap.size, 0, none⟩) (by show w.heap.size < _; omega)).trans hx0; replace hx1 := (q5.cell (p := ⟨w.heap.size, 1, none⟩) (by show w.heap.size < _; omega)).trans hx1
  go_wp2_with fail
  refine (I_PutAddr _ _ _ l0 a1 b1 _ o4.rd (by omega)).mono ?_
  rintro e W6 ⟨A_6, n_6, c_6, rfl, o6, q6⟩
  have s6 := q6.size
  replace o3 := o3.below q6 (by omega)
  replace o4 := o4.below q6 (by omega)
  replace B := bnext B q6
  replace hx0 := (q6.cell (p := ⟨w.heap.size, 0, none⟩) (by show w.heap.size < _; omega)).trans hx0; replace hx1 := (q6.cell (p := ⟨w.heap.size, 1, none⟩) (by show w.heap.size < _; omega)).trans hx1
  have hn_6 : n_6 ≤ 1048588 := by have h1 := o6.rd.len; rw [bv_len] at h1; omega
  go_wp2_with fail
  refine (L_eqByteS_same _ _ _ _ _ _ _ _ o6.rd o3.rd).mono ?_
  rintro e W7 ⟨rfl, q7⟩
  have s7 := q7.size
  replace o3 := o3.below q7 (by omega)
  replace o4 := o4.below q7 (by omega)
  replace o6 := o6.below q7 (by omega)
  replace B := bnext B q7
  replace hx0 := (q7.cell (p := ⟨w.heap.size, 0, none⟩) (by show w.heap.size < _; omega)).trans hx0; replace hx1 := (q7.cell (p := ⟨w.heap.size, 1, none⟩) (by show w.heap.size < _; omega)).trans hx1
  go_wp2_with fail
  refine (L_toByteS _ _ _ l0 _ (w0.below B (Nat.le_refl _)) hn0).mono ?_
  rintro e W8 ⟨A_8, n_8, c_8, rfl, o8, q8⟩
  have s8 := q8.size
  replace o3 := o3.below q8 (by omega)
  replace o4 := o4.below q8 (by omega)
  replace o6 := o6.below q8 (by omega)
  replace B := bnext B q8
  replace hx0 := (q8.cell (p := ⟨w.heap.size, 0, none⟩) (by show w.heap.size < _; omega)).trans hx0; replace hx1 := (q8.cell (p := ⟨w.heap.size, 1, none⟩) (by show w.heap.size < _; omega)).trans hx1
  go_wp2_with fail
  refine (L_eqByteS_same _ _ _ _ _ _ l0 _ o4.rd o8.rd).mono ?_
  rintro e W9 ⟨rfl, q9⟩
  have s9 := q9.size
  replace o3 := o3.below q9 (by omega)
  replace o4 := o4.below q9 (by omega)
  replace o6 := o6.below q9 (by omega)
  replace B := bnext B q9
  replace hx0 := (q9.cell (p := ⟨w.heap.size, 0, none⟩) (by show w.heap.size < _; omega)).trans hx0; replace hx1 := (q9.cell (p := ⟨w.heap.size, 1, none⟩) (by show w.heap.size < _; omega)).trans hx1
  go_wp2_with fail
  refine (L_markByteS _ _ _ _ _ _ 1 _ o4 (by omega)).mono ?_
  rintro e W10 ⟨rfl, p4, g10⟩
  replace B := grown_next B o4 (by omega) g10
  replace o3 := o3.grown g10 o4.rng (by omega)
  replace o6 := o6.grown g10 o4.rng (by omega)
  replace hx0 := grown_cell o4 g10 (by omega) hx0; replace hx1 := grown_cell o4 g10 (by omega) hx1
  clear o4; have o4 := p4; clear p4; have s10 := g10.size
  go_wp2_with fail
  refine (L_eqByteS_same _ _ _ _ _ _ _ _ o6.rd o3.rd).mono ?_
  rintro e W11 ⟨rfl, q11⟩
  have s11 := q11.size
  replace o3 := o3.below q11 (by omega)
  replace o6 := o6.below q11 (by omega)
  replace B := bnext B q11
  replace hx0 := (q11.cell (p := ⟨w.heap.size, 0, none⟩) (by show w.heap.size < _; omega)).trans hx0; replace hx1 := (q11.cell (p := ⟨w.heap.size, 1, none⟩) (by show w.heap.size < _; omega)).trans hx1
  go_wp2_with fail
  refine (L_markByteS _ _ _ _ _ _ 1 _ o6 (by omega)).mono ?_
  rintro e W12 ⟨rfl, p6, g12⟩
  replace B := grown_next B o6 (by omega) g12
  replace o3 := o3.grown g12 o6.rng (by omega)
  replace hx0 := grown_cell o6 g12 (by omega) hx0; replace hx1 := grown_cell o6 g12 (by omega) hx1
  clear o6; have o6 := p6; clear p6; have s12 := g12.size
  go_wp2_with fail
  refine (L_heldByteS _ _ _ 1 _ o6.rd (by omega)).mono ?_
  rintro e w_ ⟨rfl, rfl⟩
  have hzB : w.heap.size < W12.heap.size := by omega
  go_wp2_with fail
  go_region_held3 (fun w' => w'.cell? ⟨w.heap.size, 0, none⟩ = some (.int .i64 a1) ∧ w'.cell? ⟨w.heap.size, 1, none⟩ = some (.int .i64 b1)) (first | exact ⟨hx0, hx1⟩ | exact ⟨ha0, ha1⟩ | exact ⟨hb0', hb1'⟩ | exact ⟨hd0, hd1⟩)
    (first
      | (go_at_call 16; refine (L_toByteS _ _ _ l0 _ ?_ hn0).mono ?_; (first | exact w0.below B (Nat.le_refl _) | exact (w0.below B (Nat.le_refl _)).drew | exact (w0.below B (Nat.le_refl _)).drewN _); rintro e W13 ⟨A_13, n_13, c_13, rfl, o13, q13⟩; have ha0 := (q13.cell (p := ⟨w.heap.size, 0, none⟩) hzB).trans hx0; have ha1 := (q13.cell (p := ⟨w.heap.size, 1, none⟩) hzB).trans hx1)
      | (go_at_call 41; refine (L_toAddr a1 b1 _).mono ?_; rintro e W14 ⟨rfl, q14⟩; have hb0' := (q14.cell (p := ⟨w.heap.size, 0, none⟩) (Nat.lt_of_lt_of_le hzB q13.size)).trans ha0; have hb1' := (q14.cell (p := ⟨w.heap.size, 1, none⟩) (Nat.lt_of_lt_of_le hzB q13.size)).trans ha1)
      | (go_at_call 42; refine (I_PutAddr _ _ _ l0 a1 b1 _ (o13.below q14 (Nat.le_refl _)).rd ?_).mono ?_; (have h1 := o13.rd.len; rw [bv_len] at h1; have h2 := w0.len; rw [bv_len] at h2; omega); rintro e W15 ⟨A_15, n_15, c_15, rfl, o15, q15⟩; have hd0 := (q15.cell (p := ⟨w.heap.size, 0, none⟩) (Nat.lt_of_lt_of_le (Nat.lt_of_lt_of_le hzB q13.size) q14.size)).trans hb0'; have hd1 := (q15.cell (p := ⟨w.heap.size, 1, none⟩) (Nat.lt_of_lt_of_le (Nat.lt_of_lt_of_le hzB q13.size) q14.size)).trans hb1'))
  replace q13 := bundrew q13
  replace o13 := o13.undrew
  have s13 := q13.size; have s14 := q14.size; have s15 := q15.size
  replace B := bnext (bnext (bnext B q13) q14) q15
  replace o3 := ((o3.below q13 (by omega)).below q14 (by omega)).below q15 (by omega)
  replace o6 := ((o6.below q13 (by omega)).below q14 (by omega)).below q15 (by omega)
  clear ha0 ha1 hb0' hb1' hx0 hx1; have hx0 := hd0; have hx1 := hd1; clear hd0 hd1 o13
  have hn_15 : n_15 ≤ 1048588 := by have h1 := o15.rd.len; rw [bv_len] at h1; omega
  go_wp2_with fail
  refine (L_eqByteS_same _ _ _ _ _ _ _ _ o15.rd o3.rd).mono ?_
  rintro e W16 ⟨rfl, q16⟩
  have s16 := q16.size
  replace o6 := o6.below q16 (by omega)
  replace B := bnext B q16
  replace hx0 := (q16.cell (p := ⟨w.heap.size, 0, none⟩) (by show w.heap.size < _; omega)).trans hx0; replace hx1 := (q16.cell (p := ⟨w.heap.size, 1, none⟩) (by show w.heap.size < _; omega)).trans hx1
  go_wp2_with fail
  refine (L_heldByteS _ _ _ 1 _ o6.rd (by omega)).mono ?_
  rintro e w_ ⟨rfl, rfl⟩
  go_wp2_with fail
  go_ret
  exact ⟨rfl, B⟩

theorem fnExactPutAddr_cellsA : Try.prog.cellsOf 46 = 2 := by kernel_rfl
set_option maxRecDepth 100000 in
theorem fnExactPutAddr_lifted (os : Os) (started : os.Started) (H : Type) (enc : TypeId × Value → H) :
    ReturnsInHanded {} Try.checked os 11 .any (Rows.fnExactPutAddrSpec.pre6 enc Try.prog Try.f11 Rows.fnExactPutAddrRow.domain false) (Rows.fnExactPutAddrSpec.post enc Try.prog Try.f11 false true false false) := by
  refine returnsInHanded_of_change (C := Try.checked) own started (by kernel_rfl) Try.func11
    (ChangeSpec.witness6 (enc := enc) (C := Try.checked) false ⟨#[], #[.slice none 0 0, .agg #[.int .i64 0, .int .i64 0]], []⟩ 8 (by kernel_rfl) (by kernel_rfl) (by kernel_rfl) (by kernel_rfl)) ?_
  intro W base args ds gs before hval0 hW hcnd _
  have hval : ∀ (j : Nat) t v, Try.f11.params[j]? = some t → args[j]? = some v → Value.okWide Try.prog W .any base t v := hval0
  have hW' := hW
  obtain ⟨p, q, hA0, hV, rfl, hfz, hnd⟩ := hW
  have hA : DataW.TrodAll enc Try.prog W 0 (fun _ => true) true Try.f11.params.toList args.toList ds p := hA0
  rw [Try.params11] at hA hval
  obtain ⟨v0, vs0, d0, ds0, p0, q0, hargs, rfl, rfl, h0, r0⟩ := trodAll_cons hA
  obtain ⟨v1, vs1, d1, ds1, p1, q1, rfl, rfl, rfl, h1, r1⟩ := trodAll_cons r0
  obtain ⟨rfl, rfl, rfl⟩ := trodAll_nil r1
  obtain rfl : args = #[v0, v1] := by cases args; simp_all
  obtain ⟨rfl, rfl⟩ := trodVars_none hV
  have k0 := h0
  have lt0 : ∀ x ∈ p0, x.block < W.heap.size := by obtain ⟨m, hm⟩ := k0; exact DataW.trod_lt m _ _ _ hm
  obtain ⟨A0, n0, c0, rfl⟩ := okWide_slice Try.underlying22 (hval 0 22 v0 rfl rfl)
  obtain ⟨l0, w0⟩ : ∃ l, Rd W A0 n0 c0 (bv l) := by
    obtain ⟨fuel, hf⟩ := h0
    exact open_bytes Try.underlying22 Try.underlying5 (by kernel_rfl) (by simpa [Value.cells] using hf)
  have k1 := h1
  have lt1 : ∀ x ∈ p1, x.block < W.heap.size := by obtain ⟨m, hm⟩ := k1; exact DataW.trod_lt m _ _ _ hm
  obtain ⟨u1, u'1, y1, y'1, m1, rfl, rfl, rfl, g1, g'1⟩ := Joins.open_agg2 Try.underlying46 (by kernel_rfl) fnExactPutAddr_cellsA (hval 1 46 v1 rfl rfl) h1
  obtain ⟨a1, e1, rfl, w1⟩ := DataW.trod_int Try.underlying3 g1
  obtain ⟨b1, e'1, rfl, x1⟩ := DataW.trod_int Try.underlying3 g'1
  simp only [List.cons.injEq, and_true] at e1 e'1
  subst e1; subst e'1
  clear hA0 hval0
  refine (fnExactPutAddr_walk A0 n0 c0 l0 a1 b1 W w0 (bounds64 w1) (bounds64 x1)).mono fun e W' ⟨he, bel⟩ => ?_
  subst he
  exact ⟨_, rfl, _, _, _, [], _, [], hW', trodAll_mk1 (shut_bool Try.underlying4 _), (trodAll_cons_mk (Below.trod laidOut (by kernel_rfl) (of_decide_eq_true (by kernel_rfl)) k0 bel lt0) (trodAll_cons_mk (Below.trod laidOut (by kernel_rfl) (of_decide_eq_true (by kernel_rfl)) k1 bel lt1) trodAll_mk0)), rfl, bel.frame _, fun h => by cases h⟩

theorem fnExactPutAddr_over : Rows.fnExactPutAddrRow.holds Try.pinned (OpenSpec.ofChange Rows.fnExactPutAddrSpec) :=
  OpenClaim.holds_of_wide 11 Try.f11 rfl rfl rfl rfl rfl rfl rfl ⟨rfl, rfl, rfl, rfl, rfl⟩ rfl rfl rfl rfl rfl (by kernel_rfl) Try.func11 (by kernel_rfl)
    (of_decide_eq_true (by kernel_rfl)) (by unfold Func.isWrapper; first | (rw [if_pos (by decide +kernel)]; kernel_rfl) | (rw [if_neg (by decide +kernel)]; exact ⟨rfl, rfl⟩))
    (fun os started H enc _ => fnExactPutAddr_lifted os started H enc)

/-- The statement. -/
theorem fnExactPutAddr_proved : Rows.FnExactPutAddrSaid := fnExactPutAddr_over
#print axioms fnExactPutAddr_proved
end Go.Proofs.Ytckdipncijhedaa
