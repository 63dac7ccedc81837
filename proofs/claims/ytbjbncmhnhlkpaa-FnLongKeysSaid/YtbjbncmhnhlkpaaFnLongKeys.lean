/- Proved: for every input that reads as data, laws.FnLongKeys of the given program returns true and leaves its arguments as they read. No condition of its own. -/
import Derived.Test.YtbjbncmhnhlkpaaBase
import Derived.Test.YtbjbncmhnhlkpaaLaw
import Derived.Test.YtbjbncmhnhlkpaaLawM
import Derived.Test.YtbjbncmhnhlkpaaDraws
import Derived.Test.YtbjbncmhnhlkpaaMac3
import Derived.Test.YtbjbncmhnhlkpaaMac4
namespace Go.Proofs.Ytbjbncmhnhlkpaa
open Go.ChangeShapes Go.WideShapes Go.ChangeAt Go.RowKit
set_option linter.unusedVariables false

set_option maxRecDepth 100000 in
set_option maxHeartbeats 8000000 in
theorem fnLongKeys_walk (A0 : Option Addr) (n0 c0 : Nat) (l0 : List UInt8) (w : World) (w0 : Rd w A0 n0 c0 (bv l0)) :
    Calls Try.prog 13 #[.slice A0 n0 c0] w fun e w' => e = .returned (.bool true) ∧ Below w.heap.size w w' := by
  have hb0 := w0.bnd
  by_cases hn : n0 ≤ 1048576
  rotate_left
  · have C := Lib.hid (L_big_yes A0 n0 c0 w hb0 hn)
    go_enter Try.func13, Try.ntmps13
    go_wp2_with fail
    refine C.out.mono ?_
    rintro e W ⟨rfl, rfl⟩
    go_wp2_with fail
    go_ret
    exact ⟨rfl, Below.refl _ _⟩
  have C := Lib.hid (L_big_no A0 n0 c0 w hb0 hn)
  go_enter Try.func13, Try.ntmps13
  go_wp2_with fail
  refine C.out.mono ?_
  rintro e W ⟨rfl, rfl⟩
  go_wp2_with fail
  refine (S_DrawHmac A0 n0 c0 l0 w w0).mono ?_
  rintro e W1 ⟨A1, n1, c1, r1, A2, n2, c2, r2, rfl, ⟨o1, l1⟩, ⟨o2, l2⟩, B1⟩
  have q1 := o1.rd
  have q2 := o2.rd
  have e1 : r1.length = n1 := by have := q1.len; rwa [bv_len] at this
  have e2 : r2.length = n2 := by have := q2.len; rwa [bv_len] at this
  have b1 := q1.bnd
  have b2 := q2.bnd
  have HL := Lib.hid (hmacL_len r1 r2 (by omega) (by omega))
  have CE := Lib.hid (I_Hmac A1 A2 n1 c1 n2 c2 r1 r2 W1 q1 q2)
  clear o1 o2 C
  go_wp2_with fail
  refine CE.out.mono ?_
  rintro e W2 ⟨A3, n3, c3, rfl, o3, b3⟩
  have hn3 : 32 = n3 := by have h := o3.rd.len; rw [bv_len, HL.out] at h; exact h
  subst hn3
  have B2 := bnext B1 b3
  have q3 := o3.rd
  have q3b := q3.bnd
  have q1 := q1.below b3 (Nat.le_refl _)
  have q2 := q2.below b3 (Nat.le_refl _)
  have CF := Lib.hid (S_Hmac A1 A2 n1 c1 n2 c2 r1 r2 W2 q1 q2)
  clear CE o3 HL
  go_wp2_with fail
  refine CF.out.mono ?_
  rintro e W3 ⟨A4, n4, c4, rfl, o4, b4⟩
  have B3 := bnext B2 b4
  have q3 := q3.below b4 (Nat.le_refl _)
  have q1 := q1.below b4 (Nat.le_refl _)
  have q2 := q2.below b4 (Nat.le_refl _)
  have CS := Lib.hid (L_same_yes A3 A4 32 c3 n4 c4 _ _ W3 q3 o4.rd rfl)
  clear CF o4
  go_wp2_with fail
  refine CS.out.mono ?_
  rintro e W ⟨rfl, rfl⟩
  have CB := Lib.hid (I_BlockKey A1 n1 c1 r1 W3 q1)
  clear CS
  go_wp2_with fail
  refine CB.out.mono ?_
  rintro e W4 ⟨A5, n5, c5, rfl, o5, b5⟩
  have B4 := bnext B3 b5
  have q3 := q3.below b5 (Nat.le_refl _)
  have q1 := q1.below b5 (Nat.le_refl _)
  have q2 := q2.below b5 (Nat.le_refl _)
  have CH := Lib.hid (I_Hmac A5 A2 n5 c5 n2 c2 (blockL r1) r2 W4 o5.rd q2)
  rw [hmacL_block r1 r2 (by omega)] at CH
  clear CB o5
  go_wp2_with fail
  refine CH.out.mono ?_
  rintro e W5 ⟨A6, n6, c6, rfl, o6, b6⟩
  have B5 := bnext B4 b6
  have q3 := q3.below b6 (Nat.le_refl _)
  have q1 := q1.below b6 (Nat.le_refl _)
  have q2 := q2.below b6 (Nat.le_refl _)
  have CS := Lib.hid (L_same_yes A3 A6 32 c3 n6 c6 _ _ W5 q3 o6.rd rfl)
  clear CH o6
  go_wp2_with fail
  refine CS.out.mono ?_
  rintro e W ⟨rfl, rfl⟩
  clear CS b3 b4 b5 b6
  by_cases h64 : 64 < n1
  · have h64' : (64 : Int) < (n1 : Int) := by omega
    have CX := Lib.hid (I_Sha A1 n1 c1 r1 W5 q1)
    have HX := Lib.hid (hmacL_long r1 r2 (by omega) (by omega))
    clear e1 e2
    go_wp2_with fail
    refine CX.out.mono ?_
    rintro e W6 ⟨A7, n7, c7, rfl, o7, b7⟩
    have B6 := bnext B5 b7
    have CH := Lib.hid (I_Hmac A7 A2 n7 c7 n2 c2 (shaL r1) r2 W6 o7.rd (q2.below b7 (Nat.le_refl _)))
    rw [HX.out] at CH
    have q3 := q3.below b7 (Nat.le_refl _)
    go_wp2_with fail
    refine CH.out.mono ?_
    rintro e W7 ⟨A8, n8, c8, rfl, o8, b8⟩
    have CS := Lib.hid (L_same_yes A3 A8 32 c3 n8 c8 _ _ W7 (q3.below b8 (Nat.le_refl _)) o8.rd rfl)
    have B7 := bnext B6 b8
    go_wp2_with fail
    refine CS.out.mono ?_
    rintro e W ⟨rfl, rfl⟩
    go_wp2_with fail
    go_ret
    exact ⟨rfl, B7⟩
  · have h64' : ¬ (64 : Int) < (n1 : Int) := by omega
    by_cases h63 : n1 < 64
    · have h63' : (n1 : Int) < 64 := by omega
      have HX := Lib.hid (hmacL_zero r1 r2 (by omega))
      have HOA := Lib.hid (own_empty W5 5)
      have hra := q1.alloc (.cells #[] 5)
      have z5 : 0 + n1 ≤ 70368744177664 := by omega
      have z6 : W5.heap.size ≤ (W5.alloc (.cells #[] 5)).heap.size := by simp
      have z7 : n1 + 1 ≤ 70368744177664 := by omega
      clear e1 e2
      go_wp2_with (first
        | (at_builtin; refine append_bytes _ rfl _ _ rfl W5.heap.size _ _ _ r1 rfl HI _ _ _ [0] rfl (rd_one W6 _ _) z7 z8 ?_; intro A8 c8 W8 HO8 hb8)
        | (at_builtin; refine append_bytes _ rfl _ _ rfl W5.heap.size _ _ _ [] rfl HOA _ _ _ r1 rfl hra z5 z6 ?_; intro A7 c7 W6 HO7 hb7; rw [Nat.zero_add, List.nil_append] at HO7; have HI := Lib.hid (HO7.out.alloc (.cells #[.int .u8 0] 5)); have z8 := Nat.le_trans z6 (Nat.le_trans hb7.size (Below.alloc (Below.refl W6.heap.size W6) (Nat.le_refl _) (.cells #[.int .u8 0] 5)).size)))
      have b8 := ((balloc (Below.refl W5.heap.size W5) (.cells #[] 5)).trans hb7).trans ((Below.alloc (Below.refl W5.heap.size W6) (Nat.le_trans z6 hb7.size) (.cells #[.int .u8 0] 5)).trans hb8)
      have CH := Lib.hid (I_Hmac A8 A2 _ c8 n2 c2 (r1 ++ [0]) r2 W8 (own_rd HO8.out) (q2.below b8 (Nat.le_refl _)))
      rw [HX.out] at CH
      have B6 := bnext B5 b8
      have q3 := q3.below b8 (Nat.le_refl _)
      refine CH.out.mono ?_
      rintro e W9 ⟨A9, n9, c9, rfl, o9, b9⟩
      have CS := Lib.hid (L_same_yes A3 A9 32 c3 n9 c9 _ _ W9 (q3.below b9 (Nat.le_refl _)) o9.rd rfl)
      have B7 := bnext B6 b9
      go_wp2_with fail
      refine CS.out.mono ?_
      rintro e W ⟨rfl, rfl⟩
      go_wp2_with fail
      go_ret
      exact ⟨rfl, B7⟩
    · have h63' : ¬ (n1 : Int) < 64 := by omega
      have CB := Lib.hid (I_BlockKey A1 n1 c1 r1 W5 q1)
      rw [blockL_64 r1 (by omega)] at CB
      clear e1 e2
      go_wp2_with fail
      refine CB.out.mono ?_
      rintro e W6 ⟨A7, n7, c7, rfl, o7, b7⟩
      have CS := Lib.hid (L_same_yes A7 A1 n7 c7 n1 c1 _ _ W6 o7.rd (q1.below b7 (Nat.le_refl _)) rfl)
      have B6 := bnext B5 b7
      go_wp2_with fail
      refine CS.out.mono ?_
      rintro e W ⟨rfl, rfl⟩
      go_wp2_with fail
      go_ret
      exact ⟨rfl, B6⟩

set_option maxRecDepth 100000 in
theorem fnLongKeys_lifted (os : Os) (started : os.Started) (H : Type) (enc : TypeId × Value → H) :
    ReturnsInHanded {} Try.checked os 13 .any (Rows.fnLongKeysSpec.pre6 enc Try.prog Try.f13 Rows.fnLongKeysRow.domain false) (Rows.fnLongKeysSpec.post enc Try.prog Try.f13 false true false false) := by
  refine returnsInHanded_of_change (C := Try.checked) own started (by kernel_rfl) Try.func13
    (ChangeSpec.witness6 (enc := enc) (C := Try.checked) false ⟨#[], #[.slice none 0 0], []⟩ 8 (by kernel_rfl) (by kernel_rfl) (by kernel_rfl) (by kernel_rfl)) ?_
  intro W base args ds gs before hval0 hW hcnd _
  have hval : ∀ (j : Nat) t v, Try.f13.params[j]? = some t → args[j]? = some v → Value.okWide Try.prog W .any base t v := hval0
  have hW' := hW
  obtain ⟨p, q, hA0, hV, rfl, hfz, hnd⟩ := hW
  have hA : DataW.TrodAll enc Try.prog W 0 (fun _ => true) true Try.f13.params.toList args.toList ds p := hA0
  rw [Try.params13] at hA hval
  obtain ⟨v0, vs0, d0, ds0, p0, q0, hargs, rfl, rfl, h0, r0⟩ := trodAll_cons hA
  obtain ⟨rfl, rfl, rfl⟩ := trodAll_nil r0
  obtain rfl : args = #[v0] := by cases args; simp_all
  obtain ⟨rfl, rfl⟩ := trodVars_none hV
  have k0 := h0
  have lt0 : ∀ x ∈ p0, x.block < W.heap.size := by obtain ⟨m, hm⟩ := k0; exact DataW.trod_lt m _ _ _ hm
  obtain ⟨A0, n0, c0, rfl⟩ := okWide_slice Try.underlying22 (hval 0 22 v0 rfl rfl)
  obtain ⟨l0, w0⟩ : ∃ l, Rd W A0 n0 c0 (bv l) := by
    obtain ⟨fuel, hf⟩ := h0
    exact open_bytes Try.underlying22 Try.underlying5 (by kernel_rfl) (by simpa [Value.cells] using hf)
  clear hA0 hval0
  refine (fnLongKeys_walk A0 n0 c0 l0 W w0).mono fun e W' ⟨he, bel⟩ => ?_
  subst he
  exact ⟨_, rfl, _, _, _, [], _, [], hW', trodAll_mk1 (shut_bool Try.underlying4 _), (trodAll_cons_mk (Below.trod laidOut (by kernel_rfl) (of_decide_eq_true (by kernel_rfl)) k0 bel lt0) trodAll_mk0), rfl, bel.frame _, fun h => by cases h⟩

theorem fnLongKeys_over : Rows.fnLongKeysRow.holds Try.pinned (OpenSpec.ofChange Rows.fnLongKeysSpec) :=
  OpenClaim.holds_of_wide 13 Try.f13 rfl rfl rfl rfl rfl rfl rfl ⟨rfl, rfl, rfl, rfl, rfl⟩ rfl rfl rfl rfl rfl (by kernel_rfl) Try.func13 (by kernel_rfl)
    (of_decide_eq_true (by kernel_rfl)) (by unfold Func.isWrapper; first | (rw [if_pos (by decide +kernel)]; kernel_rfl) | (rw [if_neg (by decide +kernel)]; exact ⟨rfl, rfl⟩))
    (fun os started H enc _ => fnLongKeys_lifted os started H enc)

/-- The statement. -/
theorem fnLongKeys_proved : Rows.FnLongKeysSaid := fnLongKeys_over
#print axioms fnLongKeys_proved
end Go.Proofs.Ytbjbncmhnhlkpaa
