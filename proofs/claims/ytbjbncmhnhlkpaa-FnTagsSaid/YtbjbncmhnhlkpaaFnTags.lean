/- Proved: for every input that reads as data, laws.FnTags of the given program returns true and leaves its arguments as they read. No condition of its own. -/
import Derived.Test.YtbjbncmhnhlkpaaBase
import Derived.Test.YtbjbncmhnhlkpaaLaw
import Derived.Test.YtbjbncmhnhlkpaaLawM
import Derived.Test.YtbjbncmhnhlkpaaDraws
import Derived.Test.YtbjbncmhnhlkpaaTagD
import Derived.Test.YtbjbncmhnhlkpaaBent
import Derived.Test.YtbjbncmhnhlkpaaSameTag
import Derived.Test.YtbjbncmhnhlkpaaMac5
namespace Go.Proofs.Ytbjbncmhnhlkpaa
open Go.ChangeShapes Go.WideShapes Go.ChangeAt Go.RowKit
set_option linter.unusedVariables false

theorem beq_diff (l m : List UInt8) : (l == m) = (diffI l m == 0) := by
  rw [Bool.eq_iff_iff, beq_iff_eq, beq_iff_eq, diffI_zero]
theorem beq_neg (l m : List UInt8) (a b : Nat) (ha : l.length = a) (hb : m.length = b) : (diffI l m == -1) = ((a : Int) != (b : Int)) := by
  rw [Bool.eq_iff_iff, beq_iff_eq, diffI_neg, bne_iff_ne]
  omega
theorem sameT_16 (l m : List UInt8) (h : l.length = 16) : sameT l m = (l == m) := by
  rw [beq_diff]
  simp [sameT, h]
theorem sameT_no (l m : List UInt8) (h : l.length ≠ 16) : sameT l m = false := by simp [sameT, h]
theorem sameT_ne (l m : List UInt8) (h : l.length = 16) (hne : l ≠ m) : sameT l m = false := by
  rw [sameT_16 l m h]
  simpa using hne

set_option maxRecDepth 100000 in
set_option maxHeartbeats 8000000 in
theorem fnTags_walk (A0 : Option Addr) (n0 c0 : Nat) (l0 : List UInt8) (w : World) (w0 : Rd w A0 n0 c0 (bv l0)) :
    Calls Try.prog 11 #[.slice A0 n0 c0] w fun e w' => e = .returned (.bool true) ∧ Below w.heap.size w w' := by
  have hb0 := w0.bnd
  by_cases hn : n0 ≤ 1048576
  rotate_left
  · have C := Lib.hid (L_big_yes A0 n0 c0 w hb0 hn)
    go_enter Try.func11, Try.ntmps11
    go_wp2_with fail
    refine C.out.mono ?_
    rintro e W ⟨rfl, rfl⟩
    go_wp2_with fail
    go_ret
    exact ⟨rfl, Below.refl _ _⟩
  have C := Lib.hid (L_big_no A0 n0 c0 w hb0 hn)
  go_enter Try.func11, Try.ntmps11
  go_wp2_with fail
  refine C.out.mono ?_
  rintro e W ⟨rfl, rfl⟩
  go_wp2_with fail
  refine (S_DrawDiff A0 n0 c0 l0 w w0).mono ?_
  rintro e W1 ⟨A1, n1, c1, r1, A2, n2, c2, r2, rfl, ⟨o1, l1⟩, ⟨o2, l2⟩, B1⟩
  have q1 := o1.rd
  have q2 := o2.rd
  have e1 : r1.length = n1 := by have := q1.len; rwa [bv_len] at this
  have e2 : r2.length = n2 := by have := q2.len; rwa [bv_len] at this
  have b1 := q1.bnd
  have b2 := q2.bnd
  have F1 := beq_neg r1 r2 n1 n2 e1 e2
  have F2 := beq_diff r1 r2
  have C1 := Lib.hid (I_Diff A1 A2 n1 n2 c1 c2 r1 r2 W1 q1 q2)
  have C2 := fun W h h' => I_Diff A2 A1 n2 n1 c2 c1 r2 r1 W h h'
  rw [diffI_comm r2 r1] at C2
  have C2 := Lib.hid C2
  have C3 := fun W h h' => L_same A1 A2 n1 c1 n2 c2 r1 r2 W h h'
  rw [F2] at C3
  have C3 := Lib.hid C3
  generalize diffI r1 r2 = D at *
  clear o1 o2 C F2 e1 e2
  go_wp2_with fail
  refine C1.out.mono ?_
  rintro e W ⟨rfl, d1, rfl⟩
  have q1 := q1.drewN d1
  have q2 := q2.drewN d1
  have B2 := bdrewN B1 d1
  generalize W1.drewN d1 = W2 at *
  go_wp2_with fail
  refine (S_DrawSameTag A0 n0 c0 l0 W2 (w0.below B2 (Nat.le_refl _))).mono ?_
  rintro e W3 ⟨A3, n3, c3, r3, A4, n4, c4, r4, rfl, ⟨o3, l3⟩, ⟨o4, l4⟩, b3⟩
  have q3 := o3.rd
  have q4 := o4.rd
  have e3 : r3.length = n3 := by have := q3.len; rwa [bv_len] at this
  have b3b := q3.bnd
  have b4b := q4.bnd
  have B3 := bnext B2 b3
  have q1 := q1.below b3 (Nat.le_refl _)
  have q2 := q2.below b3 (Nat.le_refl _)
  clear o3 o4 C1
  go_wp2_with fail
  refine (S_DrawTag A0 n0 c0 l0 W3 (w0.below B3 (Nat.le_refl _))).mono ?_
  rintro e W4 ⟨A5, n5, c5, r5, A6, n6, c6, r6, rfl, ⟨o5, l5⟩, ⟨o6, l6⟩, b4⟩
  have q5 := o5.rd
  have q6 := o6.rd
  have e5 : r5.length = n5 := by have := q5.len; rwa [bv_len] at this
  have e6 : r6.length = n6 := by have := q6.len; rwa [bv_len] at this
  have B4 := bnext B3 b4
  have q1 := q1.below b4 (Nat.le_refl _)
  have q2 := q2.below b4 (Nat.le_refl _)
  have q3 := q3.below b4 (Nat.le_refl _)
  have q4 := q4.below b4 (Nat.le_refl _)
  have HH := hmacL_len r5 r6 (by omega) (by omega)
  have HTL := Lib.hid (show (tagL r5 r6).length = 16 by rw [tagL, List.length_take, HH]; rfl)
  have HHL := Lib.hid HH
  have CT := Lib.hid (I_Tag A5 A6 n5 c5 n6 c6 r5 r6 W4 q5 q6)
  have CHM := Lib.hid (fun W h h' => I_Hmac A5 A6 n5 c5 n6 c6 r5 r6 W h h')
  clear o5 o6 HH e5 e6
  go_wp2_with fail
  refine CT.out.mono ?_
  rintro e W5 ⟨A7, n7, c7, rfl, o7, b5⟩
  have hn7 : 16 = n7 := by have h := o7.rd.len; rw [bv_len, HTL.out] at h; exact h
  subst hn7
  have q7 := o7.rd
  have q7b := q7.bnd
  have B5 := bnext B4 b5
  have q1 := q1.below b5 (Nat.le_refl _)
  have q2 := q2.below b5 (Nat.le_refl _)
  have q3 := q3.below b5 (Nat.le_refl _)
  have q4 := q4.below b5 (Nat.le_refl _)
  have q5 := q5.below b5 (Nat.le_refl _)
  have q6 := q6.below b5 (Nat.le_refl _)
  clear o7 CT b3 b4 b5
  go_wp2_with fail
  refine (C2.out W5 q2 q1).mono ?_
  rintro e W ⟨rfl, d2, rfl⟩
  have q1 := q1.drewN d2
  have q2 := q2.drewN d2
  have q3 := q3.drewN d2
  have q4 := q4.drewN d2
  have q5 := q5.drewN d2
  have q6 := q6.drewN d2
  have q7 := q7.drewN d2
  have B6 := bdrewN B5 d2
  generalize W5.drewN d2 = W6 at *
  go_wp2_with fail
  refine (C3.out W6 q1 q2).mono ?_
  rintro e W ⟨rfl, rfl⟩
  have R3 := Lib.hid q3
  have CB := Lib.hid (fun W hB => L_bent A0 A7 n0 c0 16 c7 l0 (tagL r5 r6) W (w0.below hB (Nat.le_refl _)))
  by_cases hc : n3 = 16
  case' pos =>
    subst hc
    have CS := I_SameTag A3 A4 16 n4 c3 c4 r3 r4 W6 q3 q4
    rw [sameT_16 r3 r4 e3] at CS
    have CS := Lib.hid CS
    have CQ := Lib.hid (fun d => L_same A3 A4 16 c3 n4 c4 r3 r4 (W6.drewN d) (q3.drewN d) (q4.drewN d))
    generalize (r3 == r4) = sb at *
    clear C2 C3
    go_wp2_with fail
    refine CS.out.mono ?_
    rintro e W ⟨rfl, d3, rfl⟩
    go_wp2_with fail
    refine (CQ.out d3).mono ?_
    rintro e W ⟨rfl, rfl⟩
  case' neg =>
    have CS := I_SameTag A3 A4 n3 n4 c3 c4 r3 r4 W6 q3 q4
    rw [sameT_no r3 r4 (by omega)] at CS
    have CS := Lib.hid CS
    have hc' : ((n3 : Int) == 16) = false := by rw [beq_eq_false_iff_ne]; omega
    have hc2 : ¬ (n3 : Int) = 16 := by omega
    clear C2 C3
    go_wp2_with fail
    refine CS.out.mono ?_
    rintro e W ⟨rfl, d3, rfl⟩
  all_goals
    have q5 := q5.drewN d3
    have q6 := q6.drewN d3
    have q7 := q7.drewN d3
    have B7 := bdrewN B6 d3
    generalize W6.drewN d3 = W7 at *
    clear q1 q2 q3 q4
    go_wp2_with fail
    refine (CHM.out W7 q5 q6).mono ?_
    rintro e W8 ⟨A8, n8, c8, rfl, o8, b8⟩
    have hn8 : 32 = n8 := by have h := o8.rd.len; rw [bv_len, HHL.out] at h; exact h
    subst hn8
    have q7 := q7.below b8 (Nat.le_refl _)
    have B8 := bnext B7 b8
    have CX := Lib.hid (L_starts_yes A8 A7 32 c8 16 c7 _ _ W8 o8.rd q7 (by omega) (show tagL r5 r6 = (hmacL r5 r6).take 16 from rfl))
    clear o8 b8
    go_wp2_with fail
    refine CX.out.mono ?_
    rintro e W ⟨rfl, d4, rfl⟩
    have q7 := q7.drewN d4
    have B9 := bdrewN B8 d4
    generalize W8.drewN d4 = W9 at *
    go_wp2_with fail
    refine (CB.out W9 B9 q7 hn (by omega) (by omega)).mono ?_
    rintro e W10 ⟨A11, c11, r11, rfl, o11, b11, hne, hl11⟩
    have B10 := bnext B9 b11
    have CY := I_SameTag A7 A11 16 16 c7 c11 (tagL r5 r6) r11 W10 (q7.below b11 (Nat.le_refl _)) o11.rd
    rw [sameT_ne _ _ HTL.out (fun e => hne e.symm)] at CY
    have CY := Lib.hid CY
    clear o11 b11
    go_wp2_with fail
    refine CY.out.mono ?_
    rintro e W ⟨rfl, d5, rfl⟩
    go_wp2_with fail
    go_ret
    exact ⟨rfl, bdrewN B10 _⟩

set_option maxRecDepth 100000 in
theorem fnTags_lifted (os : Os) (started : os.Started) (H : Type) (enc : TypeId × Value → H) :
    ReturnsInHanded {} Try.checked os 11 .any (Rows.fnTagsSpec.pre6 enc Try.prog Try.f11 Rows.fnTagsRow.domain false) (Rows.fnTagsSpec.post enc Try.prog Try.f11 false true false false) := by
  refine returnsInHanded_of_change (C := Try.checked) own started (by kernel_rfl) Try.func11
    (ChangeSpec.witness6 (enc := enc) (C := Try.checked) false ⟨#[], #[.slice none 0 0], []⟩ 8 (by kernel_rfl) (by kernel_rfl) (by kernel_rfl) (by kernel_rfl)) ?_
  intro W base args ds gs before hval0 hW hcnd _
  have hval : ∀ (j : Nat) t v, Try.f11.params[j]? = some t → args[j]? = some v → Value.okWide Try.prog W .any base t v := hval0
  have hW' := hW
  obtain ⟨p, q, hA0, hV, rfl, hfz, hnd⟩ := hW
  have hA : DataW.TrodAll enc Try.prog W 0 (fun _ => true) true Try.f11.params.toList args.toList ds p := hA0
  rw [Try.params11] at hA hval
  obtain ⟨v0, vs0, d0, ds0, p0, q0, hargs, rfl, rfl, h0, r0⟩ := trodAll_cons hA
  obtain ⟨rfl, rfl, rfl⟩ := trodAll_nil r0
  obtain rfl : args = #[v0] := by cases args; simp_all
  obtain ⟨rfl, rfl⟩ := trodVars_none hV
  have k0 := h0
  have lt0 : ∀ x ∈ p0, x.block < W.heap.size := by obtain ⟨m, hm⟩ := k0; exact DataW.trod_lt m _ _ _ hm
  obtain ⟨A0, n0, c0, rfl⟩ := okWide_slice Try.underlying22 (hval 0 22 v0 rfl rfl)
  obtain ⟨l0, w0⟩ : ∃ l, Rd W A0 n0 c0 (bv l) := by
    obtain ⟨fuel, hf⟩ := h0
    exact open_bytes Try.underlying22 Try.underlying5 (by kernel_rfl) (by simpa [Value.cells] using hf)
  clear hA0 hval0
  refine (fnTags_walk A0 n0 c0 l0 W w0).mono fun e W' ⟨he, bel⟩ => ?_
  subst he
  exact ⟨_, rfl, _, _, _, [], _, [], hW', trodAll_mk1 (shut_bool Try.underlying4 _), (trodAll_cons_mk (Below.trod laidOut (by kernel_rfl) (of_decide_eq_true (by kernel_rfl)) k0 bel lt0) trodAll_mk0), rfl, bel.frame _, fun h => by cases h⟩

theorem fnTags_over : Rows.fnTagsRow.holds Try.pinned (OpenSpec.ofChange Rows.fnTagsSpec) :=
  OpenClaim.holds_of_wide 11 Try.f11 rfl rfl rfl rfl rfl rfl rfl ⟨rfl, rfl, rfl, rfl, rfl⟩ rfl rfl rfl rfl rfl (by kernel_rfl) Try.func11 (by kernel_rfl)
    (of_decide_eq_true (by kernel_rfl)) (by unfold Func.isWrapper; first | (rw [if_pos (by decide +kernel)]; kernel_rfl) | (rw [if_neg (by decide +kernel)]; exact ⟨rfl, rfl⟩))
    (fun os started H enc _ => fnTags_lifted os started H enc)

/-- The statement. -/
theorem fnTags_proved : Rows.FnTagsSaid := fnTags_over
#print axioms fnTags_proved
end Go.Proofs.Ytbjbncmhnhlkpaa
