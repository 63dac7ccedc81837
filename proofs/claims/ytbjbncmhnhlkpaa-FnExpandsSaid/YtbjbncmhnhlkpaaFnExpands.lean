/- Proved: for every input that reads as data, laws.FnExpands of the given program returns true and leaves its arguments as they read. No condition of its own. -/
import Derived.Test.YtbjbncmhnhlkpaaBase
import Derived.Test.YtbjbncmhnhlkpaaLaw
import Derived.Test.YtbjbncmhnhlkpaaLawM
import Derived.Test.YtbjbncmhnhlkpaaDraws
import Derived.Test.YtbjbncmhnhlkpaaKdf1
namespace Go.Proofs.Ytbjbncmhnhlkpaa
open Go.ChangeShapes Go.WideShapes Go.ChangeAt Go.RowKit
set_option linter.unusedVariables false

set_option maxRecDepth 100000 in
set_option maxHeartbeats 8000000 in
theorem fnExpands_walk (A0 : Option Addr) (n0 c0 : Nat) (l0 : List UInt8) (w : World) (w0 : Rd w A0 n0 c0 (bv l0)) :
    Calls Try.prog 8 #[.slice A0 n0 c0] w fun e w' => e = .returned (.bool true) ∧ Below w.heap.size w w' := by
  have hb0 := w0.bnd
  by_cases hn : n0 ≤ 1048576
  rotate_left
  · have C := Lib.hid (L_big_yes A0 n0 c0 w hb0 hn)
    go_enter Try.func8, Try.ntmps8
    go_wp2_with fail
    refine C.out.mono ?_
    rintro e W ⟨rfl, rfl⟩
    go_wp2_with fail
    go_ret
    exact ⟨rfl, Below.refl _ _⟩
  have C := Lib.hid (L_big_no A0 n0 c0 w hb0 hn)
  go_enter Try.func8, Try.ntmps8
  go_wp2_with fail
  refine C.out.mono ?_
  rintro e W ⟨rfl, rfl⟩
  go_wp2_with fail
  refine (S_DrawExpand A0 n0 c0 l0 w w0).mono ?_
  rintro e W1 ⟨A1, n1, c1, r1, A2, n2, c2, r2, z, rfl, ⟨o1, l1⟩, ⟨o2, l2⟩, hz, B1⟩
  have hzr : -9223372036854775808 ≤ z ∧ z ≤ 9223372036854775807 := by simp at hz; omega
  have q1 := o1.rd
  have q2 := o2.rd
  have e1 : r1.length = n1 := by have := q1.len; rwa [bv_len] at this
  have e2 : r2.length = n2 := by have := q2.len; rwa [bv_len] at this
  have b1 := q1.bnd
  have b2 := q2.bnd
  have CA := Lib.hid (L_at A0 n0 c0 l0 2 W1 (w0.below B1 (Nat.le_refl _)) (by omega) hn)
  clear hz o1 o2
  go_wp2_with fail
  refine CA.out.mono ?_
  rintro e W ⟨⟨m, rfl, hm0, hm1⟩, rfl⟩
  have CE := Lib.hid (I_Expand A1 A2 n1 c1 n2 c2 r1 r2 z W1 q1 q2)
  have CF := Lib.hid (fun W h h' => I_Expand A1 A2 n1 c1 n2 c2 r1 r2 m W h h')
  go_wp2_with fail
  refine CE.out.mono ?_
  rintro e W2 ⟨A3, n3, c3, rfl, o3, b3⟩
  have B2 := bnext B1 b3
  go_wp2_with fail
  refine (CF.out W2 (q1.below b3 (Nat.le_refl _)) (q2.below b3 (Nat.le_refl _))).mono ?_
  rintro e W3 ⟨A4, n4, c4, rfl, o4, b4⟩
  have B3 := bnext B2 b4
  have q3 := o3.rd.below b4 (Nat.le_refl _)
  have q4 := o4.rd
  have q3b := q3.bnd
  have q4b := q4.bnd
  have h3 : (expandL r1 r2 z).length = n3 := by have := q3.len; rwa [bv_len] at this
  have h4 : (expandL r1 r2 m).length = n4 := by have := q4.len; rwa [bv_len] at this
  clear q1 q2 o3 o4 CE CF CA C b3 b4
  by_cases hi : n2 ≤ 100
  · have hi' : (n2 : Int) ≤ 100 := by omega
    have k2 : expOk r1 r2 m := ⟨⟨hm0, by omega⟩, by omega, by omega⟩
    have y2 : expB r1 r2 m = true := decide_eq_true k2
    have hn4 : m = (n4 : Int) := by have := expandL_len r1 r2 m k2; omega
    by_cases z0 : z < 0
    · have k1 : ¬ expOk r1 r2 z := fun x => by have := x.1; omega
      have y1 : expB r1 r2 z = false := decide_eq_false k1
      have hn3 : n3 = 0 := by rw [expandL, if_neg k1] at h3; simpa using h3.symm
      subst hn3
      clear h3 h4 e1 e2 hn4 k1 k2
      go_wp2_with fail
      go_ret
      exact ⟨rfl, B3⟩
    · by_cases z1 : 8160 < z
      · have k1 : ¬ expOk r1 r2 z := fun x => by have := x.1; omega
        have y1 : expB r1 r2 z = false := decide_eq_false k1
        have hn3 : n3 = 0 := by rw [expandL, if_neg k1] at h3; simpa using h3.symm
        subst hn3
        clear h3 h4 e1 e2 hn4 k1 k2
        go_wp2_with fail
        go_ret
        exact ⟨rfl, B3⟩
      · have k1 : expOk r1 r2 z := ⟨⟨by omega, by omega⟩, by omega, by omega⟩
        have y1 : expB r1 r2 z = true := decide_eq_true k1
        have hn3 : z = (n3 : Int) := by have := expandL_len r1 r2 z k1; omega
        subst hn3
        subst hn4
        by_cases hgt : n4 < n3
        · have hgt' : (n4 : Int) < (n3 : Int) := by omega
          have CT := Lib.hid (L_starts_yes A3 A4 n3 c3 n4 c4 _ _ W3 q3 q4 (by omega) (expandL_prefix r1 r2 n4 n3 k2 k1 (by omega)))
          clear h3 h4 e1 e2 k1 k2 q3 q4
          go_wp2_with fail
          refine CT.out.mono ?_
          rintro e W ⟨rfl, qd, rfl⟩
          go_wp2_with fail
          go_ret
          exact ⟨rfl, bdrewN B3 _⟩
        · have hgt' : ¬ (n4 : Int) < (n3 : Int) := by omega
          have hle' : (n3 : Int) ≤ (n4 : Int) := by omega
          have CT := Lib.hid (L_starts_yes A4 A3 n4 c4 n3 c3 _ _ W3 q4 q3 (by omega) (expandL_prefix r1 r2 n3 n4 k1 k2 (by omega)))
          clear h3 h4 e1 e2 k1 k2 q3 q4
          go_wp2_with fail
          refine CT.out.mono ?_
          rintro e W ⟨rfl, qd, rfl⟩
          go_wp2_with fail
          go_ret
          exact ⟨rfl, bdrewN B3 _⟩
  · have k1 : ¬ expOk r1 r2 z := fun x => by have := x.2.1; omega
    have k2 : ¬ expOk r1 r2 m := fun x => by have := x.2.1; omega
    have y1 : expB r1 r2 z = false := decide_eq_false k1
    have y2 : expB r1 r2 m = false := decide_eq_false k2
    have hn3 : n3 = 0 := by rw [expandL, if_neg k1] at h3; simpa using h3.symm
    have hi' : ¬ (n2 : Int) ≤ 100 := by omega
    subst hn3
    clear h3 h4 e1 e2 k1 k2
    by_cases z0 : z < 0
    · go_wp2_with fail
      go_ret
      exact ⟨rfl, B3⟩
    · by_cases z1 : 8160 < z
      · go_wp2_with fail
        go_ret
        exact ⟨rfl, B3⟩
      · go_wp2_with fail
        go_ret
        exact ⟨rfl, B3⟩

set_option maxRecDepth 100000 in
theorem fnExpands_lifted (os : Os) (started : os.Started) (H : Type) (enc : TypeId × Value → H) :
    ReturnsInHanded {} Try.checked os 8 .any (Rows.fnExpandsSpec.pre6 enc Try.prog Try.f8 Rows.fnExpandsRow.domain false) (Rows.fnExpandsSpec.post enc Try.prog Try.f8 false true false false) := by
  refine returnsInHanded_of_change (C := Try.checked) own started (by kernel_rfl) Try.func8
    (ChangeSpec.witness6 (enc := enc) (C := Try.checked) false ⟨#[], #[.slice none 0 0], []⟩ 8 (by kernel_rfl) (by kernel_rfl) (by kernel_rfl) (by kernel_rfl)) ?_
  intro W base args ds gs before hval0 hW hcnd _
  have hval : ∀ (j : Nat) t v, Try.f8.params[j]? = some t → args[j]? = some v → Value.okWide Try.prog W .any base t v := hval0
  have hW' := hW
  obtain ⟨p, q, hA0, hV, rfl, hfz, hnd⟩ := hW
  have hA : DataW.TrodAll enc Try.prog W 0 (fun _ => true) true Try.f8.params.toList args.toList ds p := hA0
  rw [Try.params8] at hA hval
  obtain ⟨v0, vs0, d0, ds0, p0, q0, hargs, rfl, rfl, h0, r0⟩ := trodAll_cons hA
  obtain ⟨rfl, rfl, rfl⟩ := trodAll_nil r0
  obtain rfl : args = #[v0] := by cases args; simp_all
  obtain ⟨rfl, rfl⟩ := trodVars_none hV
  have k0 := h0
  have lt0 : ∀ x ∈ p0, x.block < W.heap.size := by obtain ⟨m, hm⟩ := k0; exact DataW.trod_lt m _ _ _ hm
  obtain ⟨A0, n0, c0, rfl⟩ := okWide_slice Try.underlying22 (hval 0 22 v0 rfl rfl)
  obtain ⟨l0, w0⟩ : ∃ l, Rd W A0 n0 c0 (bv l) := by
    obtain ⟨fuel, hf⟩ := h0
    exact open_bytes Try.underlying22 Try.underlying5 (by kernel_rfl) (by simpa [Value.cells] using hf)
  clear hA0 hval0
  refine (fnExpands_walk A0 n0 c0 l0 W w0).mono fun e W' ⟨he, bel⟩ => ?_
  subst he
  exact ⟨_, rfl, _, _, _, [], _, [], hW', trodAll_mk1 (shut_bool Try.underlying4 _), (trodAll_cons_mk (Below.trod laidOut (by kernel_rfl) (of_decide_eq_true (by kernel_rfl)) k0 bel lt0) trodAll_mk0), rfl, bel.frame _, fun h => by cases h⟩

theorem fnExpands_over : Rows.fnExpandsRow.holds Try.pinned (OpenSpec.ofChange Rows.fnExpandsSpec) :=
  OpenClaim.holds_of_wide 8 Try.f8 rfl rfl rfl rfl rfl rfl rfl ⟨rfl, rfl, rfl, rfl, rfl⟩ rfl rfl rfl rfl rfl (by kernel_rfl) Try.func8 (by kernel_rfl)
    (of_decide_eq_true (by kernel_rfl)) (by unfold Func.isWrapper; first | (rw [if_pos (by decide +kernel)]; kernel_rfl) | (rw [if_neg (by decide +kernel)]; exact ⟨rfl, rfl⟩))
    (fun os started H enc _ => fnExpands_lifted os started H enc)

/-- The statement. -/
theorem fnExpands_proved : Rows.FnExpandsSaid := fnExpands_over
#print axioms fnExpands_proved
end Go.Proofs.Ytbjbncmhnhlkpaa
