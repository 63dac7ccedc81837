/- Proved: for every input that reads as data, laws.FnChains of the given program returns true and leaves its arguments as they read. No condition of its own. -/
import Derived.Test.YtbjbncmhnhlkpaaBase
import Derived.Test.YtbjbncmhnhlkpaaLaw
import Derived.Test.YtbjbncmhnhlkpaaLawM
import Derived.Test.YtbjbncmhnhlkpaaDraws
import Derived.Test.YtbjbncmhnhlkpaaKdf2
namespace Go.Proofs.Ytbjbncmhnhlkpaa
open Go.ChangeShapes Go.WideShapes Go.ChangeAt Go.RowKit
set_option linter.unusedVariables false

set_option maxRecDepth 100000 in
set_option maxHeartbeats 8000000 in
theorem fnChains_walk (A0 : Option Addr) (n0 c0 : Nat) (l0 : List UInt8) (w : World) (w0 : Rd w A0 n0 c0 (bv l0)) :
    Calls Try.prog 14 #[.slice A0 n0 c0] w fun e w' => e = .returned (.bool true) ∧ Below w.heap.size w w' := by
  have hb0 := w0.bnd
  by_cases hn : n0 ≤ 1048576
  rotate_left
  · have C := Lib.hid (L_big_yes A0 n0 c0 w hb0 hn)
    go_enter Try.func14, Try.ntmps14
    go_wp2_with fail
    refine C.out.mono ?_
    rintro e W ⟨rfl, rfl⟩
    go_wp2_with fail
    go_ret
    exact ⟨rfl, Below.refl _ _⟩
  have C := Lib.hid (L_big_no A0 n0 c0 w hb0 hn)
  go_enter Try.func14, Try.ntmps14
  go_wp2_with fail
  refine C.out.mono ?_
  rintro e W ⟨rfl, rfl⟩
  go_wp2_with fail
  refine (S_DrawChain A0 n0 c0 l0 w w0).mono ?_
  rintro e W1 ⟨A1, n1, c1, r1, z, rfl, ⟨o1, l1⟩, hz, B1⟩
  have hzr : -9223372036854775808 ≤ z ∧ z ≤ 9223372036854775807 := by simp at hz; omega
  have hz2 : -1 ≤ z ∧ z ≤ 65 := by simp at hz; omega
  have q1 := o1.rd
  have e1 : r1.length = n1 := by have := q1.len; rwa [bv_len] at this
  have b1 := q1.bnd
  have CE := Lib.hid (I_Chain A1 n1 c1 r1 z W1 q1 (by omega))
  clear o1 C hz
  go_wp2_with fail
  refine CE.out.mono ?_
  rintro e W2 ⟨A2, n2, c2, rfl, o2, b2⟩
  have B2 := bnext B1 b2
  have q2 := o2.rd
  have q2b := q2.bnd
  have h2 : (chainL r1 z).length = n2 := by have := q2.len; rwa [bv_len] at this
  have q1 := q1.below b2 (Nat.le_refl _)
  have CF := Lib.hid (S_Chain A1 n1 c1 r1 z W2 q1 (by omega))
  clear CE o2
  go_wp2_with fail
  refine CF.out.mono ?_
  rintro e W3 ⟨A3, n3, c3, rfl, o3, b3⟩
  have B3 := bnext B2 b3
  have q2 := q2.below b3 (Nat.le_refl _)
  have q1 := q1.below b3 (Nat.le_refl _)
  have CS := Lib.hid (L_same_yes A2 A3 n2 c2 n3 c3 _ _ W3 q2 o3.rd rfl)
  clear CF o3
  go_wp2_with fail
  refine CS.out.mono ?_
  rintro e W ⟨rfl, rfl⟩
  clear CS
  by_cases z0 : z < 0
  · have hn2 : n2 = 0 := by rw [chainL, if_neg (by omega)] at h2; simpa using h2.symm
    subst hn2
    clear h2 e1 q1 q2
    go_wp2_with fail
    go_ret
    exact ⟨rfl, B3⟩
  by_cases z1 : 64 < z
  · have hn2 : n2 = 0 := by rw [chainL, if_neg (by omega)] at h2; simpa using h2.symm
    subst hn2
    clear h2 e1 q1 q2
    go_wp2_with fail
    go_ret
    exact ⟨rfl, B3⟩
  have CA := Lib.hid (L_at A0 n0 c0 l0 2 W3 (w0.below B3 (Nat.le_refl _)) (by omega) hn)
  obtain ⟨N, rfl⟩ := Int.eq_ofNat_of_zero_le (show 0 ≤ z by omega)
  have hN : N ≤ 64 := by omega
  clear hz2 hzr
  go_wp2_with fail
  refine CA.out.mono ?_
  rintro e W ⟨⟨x, rfl, hx0, hx1⟩, rfl⟩
  have hne : (N : Int) + 1 ≠ 0 := by omega
  have hm0 := Int.emod_nonneg x hne
  have hm1 := Int.emod_lt_of_pos x (show 0 < (N : Int) + 1 by omega)
  obtain ⟨m, hm⟩ : ∃ m : Nat, x % ((N : Int) + 1) = (m : Int) := ⟨(x % ((N : Int) + 1)).toNat, by omega⟩
  have hxt : x.tmod ((N : Int) + 1) = (m : Int) := by rw [Int.tmod_eq_emod_of_nonneg hx0]; exact hm
  rw [hm] at hm0 hm1
  have hmN : m ≤ N := by omega
  have CG := Lib.hid (I_Chain A1 n1 c1 r1 m W3 q1 (by omega))
  have HC := Lib.hid (show chainL (chainL r1 (m : Int)) ((N : Int) - (m : Int)) = chainL r1 (N : Int) by
    have := chainL_add r1 m (N - m) (by omega)
    rw [show m + (N - m) = N by omega] at this
    rw [← this]
    congr 1
    omega)
  have hml := chainL_le r1 (m : Int) (by omega)
  have H0 := Lib.hid (show N = 0 → chainL r1 (N : Int) = r1 by rintro rfl; rw [chainL, if_pos (by omega)]; rfl)
  have H1 := Lib.hid (show N = 1 → chainL r1 (N : Int) = deriveL r1 rekeyL by rintro rfl; rw [chainL, if_pos (by omega)]; rfl)
  have CD := Lib.hid (fun W h => I_Derive A1 n1 c1 r1 ⟨#[114, 101, 107, 101, 121]⟩ W h (by decide))
  rw [show (⟨#[114, 101, 107, 101, 121]⟩ : ByteArray).data.toList = rekeyL from rfl] at CD
  generalize hcl : chainL r1 (N : Int) = R at *
  clear hcl h2 e1 b2 b3 CA
  go_wp2_with fail
  refine CG.out.mono ?_
  rintro e W4 ⟨A4, n4, c4, rfl, o4, b4⟩
  have B4 := bnext B3 b4
  have q2 := q2.below b4 (Nat.le_refl _)
  have q1 := q1.below b4 (Nat.le_refl _)
  have hn4 : n4 ≤ 1048576 := by have h := o4.rd.len; rw [bv_len] at h; omega
  have CH := Lib.hid (I_Chain A4 n4 c4 _ ((N : Int) - (m : Int)) W4 o4.rd hn4)
  rw [HC.out] at CH
  clear CG o4 b4
  go_wp2_with fail
  refine CH.out.mono ?_
  rintro e W5 ⟨A5, n5, c5, rfl, o5, b5⟩
  have B5 := bnext B4 b5
  have q2 := q2.below b5 (Nat.le_refl _)
  have q1 := q1.below b5 (Nat.le_refl _)
  have CS := Lib.hid (L_same_yes A2 A5 n2 c2 n5 c5 _ _ W5 q2 o5.rd rfl)
  clear CH HC o5 b5
  go_wp2_with fail
  refine CS.out.mono ?_
  rintro e W ⟨rfl, rfl⟩
  clear CS hm hxt hm0 hm1 hmN hne hml
  by_cases n0_ : N = 0
  · have CT := Lib.hid (L_same_yes A2 A1 n2 c2 n1 c1 _ _ W5 q2 q1 (H0.out n0_))
    subst n0_
    go_wp2_with fail
    refine CT.out.mono ?_
    rintro e W ⟨rfl, rfl⟩
    go_wp2_with fail
    go_ret
    exact ⟨rfl, B5⟩
  by_cases n1_ : N = 1
  · have HD := Lib.hid (H1.out n1_)
    have CX := Lib.hid (CD.out W5 q1)
    subst n1_
    go_wp2_with fail
    refine CX.out.mono ?_
    rintro e W6 ⟨A6, n6, c6, rfl, o6, b6⟩
    have CT := Lib.hid (L_same_yes A2 A6 n2 c2 n6 c6 _ _ W6 (q2.below b6 (Nat.le_refl _)) o6.rd HD.out)
    have B6 := bnext B5 b6
    go_wp2_with fail
    refine CT.out.mono ?_
    rintro e W ⟨rfl, rfl⟩
    go_wp2_with fail
    go_ret
    exact ⟨rfl, B6⟩
  · have k0 : ((N : Int) == 0) = false := by rw [beq_eq_false_iff_ne]; omega
    have k1 : ((N : Int) == 1) = false := by rw [beq_eq_false_iff_ne]; omega
    have k2 : ¬ (N : Int) = 0 := by omega
    have k3 : ¬ (N : Int) = 1 := by omega
    go_wp2_with fail
    go_ret
    exact ⟨rfl, B5⟩

set_option maxRecDepth 100000 in
theorem fnChains_lifted (os : Os) (started : os.Started) (H : Type) (enc : TypeId × Value → H) :
    ReturnsInHanded {} Try.checked os 14 .any (Rows.fnChainsSpec.pre6 enc Try.prog Try.f14 Rows.fnChainsRow.domain false) (Rows.fnChainsSpec.post enc Try.prog Try.f14 false true false false) := by
  refine returnsInHanded_of_change (C := Try.checked) own started (by kernel_rfl) Try.func14
    (ChangeSpec.witness6 (enc := enc) (C := Try.checked) false ⟨#[], #[.slice none 0 0], []⟩ 8 (by kernel_rfl) (by kernel_rfl) (by kernel_rfl) (by kernel_rfl)) ?_
  intro W base args ds gs before hval0 hW hcnd _
  have hval : ∀ (j : Nat) t v, Try.f14.params[j]? = some t → args[j]? = some v → Value.okWide Try.prog W .any base t v := hval0
  have hW' := hW
  obtain ⟨p, q, hA0, hV, rfl, hfz, hnd⟩ := hW
  have hA : DataW.TrodAll enc Try.prog W 0 (fun _ => true) true Try.f14.params.toList args.toList ds p := hA0
  rw [Try.params14] at hA hval
  obtain ⟨v0, vs0, d0, ds0, p0, q0, hargs, rfl, rfl, h0, r0⟩ := trodAll_cons hA
  obtain ⟨rfl, rfl, rfl⟩ := trodAll_nil r0
  obtain rfl : args = #[v0] := by cases args; simp_all
  obtain ⟨rfl, rfl⟩ := trodVars_none hV
  have k0 := h0
  have lt0 : ∀ x ∈ p0, x.block < W.heap.size := by obtain ⟨m, hm⟩ := k0; exact DataW.trod_lt m _ _ _ hm
  obtain ⟨A0, n0, c0, rfl⟩ := okWide_slice Try.underlying22 (hval 0 22 v0 rfl rfl)
  obtain ⟨l0, w0⟩ : ∃ l, Rd W A0 n0 c0 (bv l) := by
    obtain ⟨fuel, hf⟩ := h0
    exact open_bytes Try.underlying22 Try.underlying5 (by kernel_rfl) (by simpa [Value.cells] using hf)
  clear hA0 hval0
  refine (fnChains_walk A0 n0 c0 l0 W w0).mono fun e W' ⟨he, bel⟩ => ?_
  subst he
  exact ⟨_, rfl, _, _, _, [], _, [], hW', trodAll_mk1 (shut_bool Try.underlying4 _), (trodAll_cons_mk (Below.trod laidOut (by kernel_rfl) (of_decide_eq_true (by kernel_rfl)) k0 bel lt0) trodAll_mk0), rfl, bel.frame _, fun h => by cases h⟩

theorem fnChains_over : Rows.fnChainsRow.holds Try.pinned (OpenSpec.ofChange Rows.fnChainsSpec) :=
  OpenClaim.holds_of_wide 14 Try.f14 rfl rfl rfl rfl rfl rfl rfl ⟨rfl, rfl, rfl, rfl, rfl⟩ rfl rfl rfl rfl rfl (by kernel_rfl) Try.func14 (by kernel_rfl)
    (of_decide_eq_true (by kernel_rfl)) (by unfold Func.isWrapper; first | (rw [if_pos (by decide +kernel)]; kernel_rfl) | (rw [if_neg (by decide +kernel)]; exact ⟨rfl, rfl⟩))
    (fun os started H enc _ => fnChains_lifted os started H enc)

/-- The statement. -/
theorem fnChains_proved : Rows.FnChainsSaid := fnChains_over
#print axioms fnChains_proved
end Go.Proofs.Ytbjbncmhnhlkpaa
