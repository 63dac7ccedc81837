/- Proved: for every input that reads as data, laws.FnMixes of the given program returns true and leaves its arguments as they read. No condition of its own. -/
import Derived.Test.YtbjbncmhnhlkpaaBase
import Derived.Test.YtbjbncmhnhlkpaaLaw
import Derived.Test.YtbjbncmhnhlkpaaLawM
import Derived.Test.YtbjbncmhnhlkpaaDraws
import Derived.Test.YtbjbncmhnhlkpaaKdf4
namespace Go.Proofs.Ytbjbncmhnhlkpaa
open Go.ChangeShapes Go.WideShapes Go.ChangeAt Go.RowKit
set_option linter.unusedVariables false

set_option maxRecDepth 100000 in
set_option maxHeartbeats 8000000 in
theorem fnMixes_walk (A0 : Option Addr) (n0 c0 : Nat) (l0 : List UInt8) (w : World) (w0 : Rd w A0 n0 c0 (bv l0)) :
    Calls Try.prog 10 #[.slice A0 n0 c0] w fun e w' => e = .returned (.bool true) ∧ Below w.heap.size w w' := by
  have hb0 := w0.bnd
  by_cases hn : n0 ≤ 1048576
  rotate_left
  · have C := Lib.hid (L_big_yes A0 n0 c0 w hb0 hn)
    go_enter Try.func10, Try.ntmps10
    go_wp2_with fail
    refine C.out.mono ?_
    rintro e W ⟨rfl, rfl⟩
    go_wp2_with fail
    go_ret
    exact ⟨rfl, Below.refl _ _⟩
  have C := Lib.hid (L_big_no A0 n0 c0 w hb0 hn)
  go_enter Try.func10, Try.ntmps10
  go_wp2_with fail
  refine C.out.mono ?_
  rintro e W ⟨rfl, rfl⟩
  go_wp2_with fail
  refine (S_DrawMix A0 n0 c0 l0 w w0).mono ?_
  rintro e W1 ⟨A1, n1, c1, r1, A2, n2, c2, r2, A3, n3, c3, r3, rfl, ⟨o1, l1⟩, ⟨o2, l2⟩, ⟨o3, l3⟩, B1⟩
  have q1 := o1.rd
  have q2 := o2.rd
  have q3 := o3.rd
  have e1 : r1.length = n1 := by have := q1.len; rwa [bv_len] at this
  have e2 : r2.length = n2 := by have := q2.len; rwa [bv_len] at this
  have e3 : r3.length = n3 := by have := q3.len; rwa [bv_len] at this
  have b1 := q1.bnd
  have b2 := q2.bnd
  have b3 := q3.bnd
  have CE := Lib.hid (I_Mix A1 A2 A3 n1 c1 n2 c2 n3 c3 r1 r2 r3 W1 q1 q2 q3)
  clear o1 o2 o3 C
  go_wp2_with fail
  refine CE.out.mono ?_
  rintro e W2 ⟨A4, n4, c4, rfl, o4, b4⟩
  have B2 := bnext B1 b4
  have q4 := o4.rd
  have h4 : (mixL r1 r2 r3).length = n4 := by have := q4.len; rwa [bv_len] at this
  have q4b := q4.bnd
  clear CE o4
  by_cases hi : n2 ≤ 100
  · by_cases hp : n3 ≤ 200
    · have ok : strOk r1 r2 r3.length := ⟨by omega, by omega, by omega⟩
      have hn4 : n3 = n4 := by have := mixL_len r1 r2 r3 ok; omega
      subst hn4
      have hi' : ¬ (100 : Int) < (n2 : Int) := by omega
      have hp' : ¬ (200 : Int) < (n3 : Int) := by omega
      have CF := Lib.hid (I_Mix A1 A2 A4 n1 c1 n2 c2 n3 c4 r1 r2 _ W2 (q1.below b4 (Nat.le_refl _)) (q2.below b4 (Nat.le_refl _)) q4)
      rw [mixL_twice r1 r2 r3 ok] at CF
      have q3' := q3.below b4 (Nat.le_refl _)
      clear h4 e1 e2 e3 ok b4 q4 q1 q2 q3
      go_wp2_with fail
      refine CF.out.mono ?_
      rintro e W3 ⟨A5, n5, c5, rfl, o5, b5⟩
      have CS := Lib.hid (L_same_yes A5 A3 n5 c5 n3 c3 _ _ W3 o5.rd (q3'.below b5 (Nat.le_refl _)) rfl)
      have B3 := bnext B2 b5
      clear o5 CF q3'
      go_wp2_with fail
      refine CS.out.mono ?_
      rintro e W ⟨rfl, rfl⟩
      go_wp2_with fail
      go_ret
      exact ⟨rfl, B3⟩
    · have hn4 : n4 = 0 := by rw [mixL, if_neg (fun x => by have := x.1; omega)] at h4; simpa using h4.symm
      subst hn4
      have hi' : ¬ (100 : Int) < (n2 : Int) := by omega
      have hp' : (200 : Int) < (n3 : Int) := by omega
      clear h4 e1 e2 e3 q1 q2 q3 q4
      go_wp2_with fail
      go_ret
      exact ⟨rfl, B2⟩
  · have hn4 : n4 = 0 := by rw [mixL, if_neg (fun x => by have := x.2.1; omega)] at h4; simpa using h4.symm
    subst hn4
    have hi' : (100 : Int) < (n2 : Int) := by omega
    clear h4 e1 e2 e3 q1 q2 q3 q4
    go_wp2_with fail
    go_ret
    exact ⟨rfl, B2⟩

set_option maxRecDepth 100000 in
theorem fnMixes_lifted (os : Os) (started : os.Started) (H : Type) (enc : TypeId × Value → H) :
    ReturnsInHanded {} Try.checked os 10 .any (Rows.fnMixesSpec.pre6 enc Try.prog Try.f10 Rows.fnMixesRow.domain false) (Rows.fnMixesSpec.post enc Try.prog Try.f10 false true false false) := by
  refine returnsInHanded_of_change (C := Try.checked) own started (by kernel_rfl) Try.func10
    (ChangeSpec.witness6 (enc := enc) (C := Try.checked) false ⟨#[], #[.slice none 0 0], []⟩ 8 (by kernel_rfl) (by kernel_rfl) (by kernel_rfl) (by kernel_rfl)) ?_
  intro W base args ds gs before hval0 hW hcnd _
  have hval : ∀ (j : Nat) t v, Try.f10.params[j]? = some t → args[j]? = some v → Value.okWide Try.prog W .any base t v := hval0
  have hW' := hW
  obtain ⟨p, q, hA0, hV, rfl, hfz, hnd⟩ := hW
  have hA : DataW.TrodAll enc Try.prog W 0 (fun _ => true) true Try.f10.params.toList args.toList ds p := hA0
  rw [Try.params10] at hA hval
  obtain ⟨v0, vs0, d0, ds0, p0, q0, hargs, rfl, rfl, h0, r0⟩ := trodAll_cons hA
  obtain ⟨rfl, rfl, rfl⟩ := trodAll_nil r0
  obtain rfl : args = #[v0] := by cases args; simp_all
  obtain ⟨rfl, rfl⟩ := trodVars_none hV
  have k0 := h0
  have lt0 : ∀ x ∈ p0, x.block < W.heap.size := by obtain ⟨m, hm⟩ := k0; exact DataW.trod_lt m _ _ _ hm
  obtain ⟨A0, n0, c0, rfl⟩ := okWide_slice Try.underlying22 (hval 0 22 v0 rfl rfl)
  obtain ⟨l0, w0⟩ : ∃ l, Rd W A0 n0 c0 (bv l) := by
    obtain ⟨fuel, hf⟩ := h0
    exact open_bytes Try.underlying22 Try.underlying5 (by kernel_rfl) (by simpa [Value.cells] using hf)
  clear hA0 hval0
  refine (fnMixes_walk A0 n0 c0 l0 W w0).mono fun e W' ⟨he, bel⟩ => ?_
  subst he
  exact ⟨_, rfl, _, _, _, [], _, [], hW', trodAll_mk1 (shut_bool Try.underlying4 _), (trodAll_cons_mk (Below.trod laidOut (by kernel_rfl) (of_decide_eq_true (by kernel_rfl)) k0 bel lt0) trodAll_mk0), rfl, bel.frame _, fun h => by cases h⟩

theorem fnMixes_over : Rows.fnMixesRow.holds Try.pinned (OpenSpec.ofChange Rows.fnMixesSpec) :=
  OpenClaim.holds_of_wide 10 Try.f10 rfl rfl rfl rfl rfl rfl rfl ⟨rfl, rfl, rfl, rfl, rfl⟩ rfl rfl rfl rfl rfl (by kernel_rfl) Try.func10 (by kernel_rfl)
    (of_decide_eq_true (by kernel_rfl)) (by unfold Func.isWrapper; first | (rw [if_pos (by decide +kernel)]; kernel_rfl) | (rw [if_neg (by decide +kernel)]; exact ⟨rfl, rfl⟩))
    (fun os started H enc _ => fnMixes_lifted os started H enc)

/-- The statement. -/
theorem fnMixes_proved : Rows.FnMixesSaid := fnMixes_over
#print axioms fnMixes_proved
end Go.Proofs.Ytbjbncmhnhlkpaa
