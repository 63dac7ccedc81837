/- Proved: for every input that reads as data, laws.FnStreams of the given program returns true and leaves its arguments as they read. No condition of its own. -/
import Derived.Test.YtbjbncmhnhlkpaaBase
import Derived.Test.YtbjbncmhnhlkpaaLaw
import Derived.Test.YtbjbncmhnhlkpaaLawM
import Derived.Test.YtbjbncmhnhlkpaaDraws
import Derived.Test.YtbjbncmhnhlkpaaKdf3
namespace Go.Proofs.Ytbjbncmhnhlkpaa
open Go.ChangeShapes Go.WideShapes Go.ChangeAt Go.RowKit
set_option linter.unusedVariables false

set_option maxRecDepth 100000 in
set_option maxHeartbeats 8000000 in
theorem fnStreams_walk (A0 : Option Addr) (n0 c0 : Nat) (l0 : List UInt8) (w : World) (w0 : Rd w A0 n0 c0 (bv l0)) :
    Calls Try.prog 9 #[.slice A0 n0 c0] w fun e w' => e = .returned (.bool true) ∧ Below w.heap.size w w' := by
  have hb0 := w0.bnd
  by_cases hn : n0 ≤ 1048576
  rotate_left
  · have C := Lib.hid (L_big_yes A0 n0 c0 w hb0 hn)
    go_enter Try.func9, Try.ntmps9
    go_wp2_with fail
    refine C.out.mono ?_
    rintro e W ⟨rfl, rfl⟩
    go_wp2_with fail
    go_ret
    exact ⟨rfl, Below.refl _ _⟩
  have C := Lib.hid (L_big_no A0 n0 c0 w hb0 hn)
  go_enter Try.func9, Try.ntmps9
  go_wp2_with fail
  refine C.out.mono ?_
  rintro e W ⟨rfl, rfl⟩
  go_wp2_with fail
  refine (S_DrawStream A0 n0 c0 l0 w w0).mono ?_
  rintro e W1 ⟨A1, n1, c1, r1, A2, n2, c2, r2, z, rfl, ⟨o1, l1⟩, ⟨o2, l2⟩, hz, B1⟩
  have hzr : -9223372036854775808 ≤ z ∧ z ≤ 9223372036854775807 := by simp at hz; omega
  have q1 := o1.rd
  have q2 := o2.rd
  have e1 : r1.length = n1 := by have := q1.len; rwa [bv_len] at this
  have e2 : r2.length = n2 := by have := q2.len; rwa [bv_len] at this
  have b1 := q1.bnd
  have b2 := q2.bnd
  have CE := Lib.hid (I_Stream A1 A2 n1 c1 n2 c2 r1 r2 z W1 q1 q2)
  have CF := Lib.hid (fun m W h h' => I_Stream A1 A2 n1 c1 n2 c2 r1 r2 m W h h')
  have CG := Lib.hid (fun i W h h' => I_BlockOf A1 A2 n1 c1 n2 c2 r1 r2 i W h h')
  clear hz o1 o2 C
  go_wp2_with fail
  refine CE.out.mono ?_
  rintro e W2 ⟨A3, n3, c3, rfl, o3, b3⟩
  have B2 := bnext B1 b3
  have CA := Lib.hid (L_at A0 n0 c0 l0 2 W2 (w0.below B2 (Nat.le_refl _)) (by omega) hn)
  go_wp2_with fail
  refine CA.out.mono ?_
  rintro e W ⟨⟨x, rfl, hx0, hx1⟩, rfl⟩
  obtain ⟨m, hm⟩ : ∃ m : Nat, x % 201 = (m : Int) := ⟨(x % 201).toNat, by omega⟩
  have hm1 : m ≤ 200 := by omega
  have hxt : x.tmod 201 = (m : Int) := by rw [Int.tmod_eq_emod_of_nonneg hx0]; exact hm
  go_wp2_with fail
  refine (CF.out (m : Int) W2 (q1.below b3 (Nat.le_refl _)) (q2.below b3 (Nat.le_refl _))).mono ?_
  rintro e W3 ⟨A4, n4, c4, rfl, o4, b4⟩
  have B3 := bnext B2 b4
  have q1' := (q1.below b3 (Nat.le_refl _)).below b4 (Nat.le_refl _)
  have q2' := (q2.below b3 (Nat.le_refl _)).below b4 (Nat.le_refl _)
  have q3 := o3.rd.below b4 (Nat.le_refl _)
  have q4 := o4.rd
  have q3b := q3.bnd
  have q4b := q4.bnd
  have h3 : (streamL r1 r2 z).length = n3 := by have := q3.len; rwa [bv_len] at this
  have h4 : (streamL r1 r2 m).length = n4 := by have := q4.len; rwa [bv_len] at this
  have HO4 := Lib.hid o4
  clear q1 q2 o3 o4 CE CF CA b3 b4
  by_cases hi : n2 ≤ 100
  rotate_left
  · have hi' : (100 : Int) < (n2 : Int) := by omega
    have hn3 : n3 = 0 := by rw [streamL, if_neg (fun x => by have := x.2.1; omega)] at h3; simpa using h3.symm
    have hn4 : n4 = 0 := by rw [streamL, if_neg (fun x => by have := x.2.1; omega)] at h4; simpa using h4.symm
    subst hn3
    subst hn4
    clear h3 h4 e1 e2 hm hxt
    go_wp2_with fail
    go_ret
    exact ⟨rfl, B3⟩
  have hi' : ¬ (100 : Int) < (n2 : Int) := by omega
  have k2 : strOk r1 r2 m := ⟨by omega, by omega, by omega⟩
  have hn4 : m = n4 := by have := streamL_len r1 r2 m k2; omega
  subst hn4
  have hq : ((m : Int)).tdiv 32 = ((m / 32 : Nat) : Int) := by rw [Int.tdiv_eq_ediv_of_nonneg (by omega)]; omega
  have hq2 : (m : Int) / 32 = ((m / 32 : Nat) : Int) := by omega
  have CB := Lib.hid (CG.out ((m / 32 : Nat) : Int) W3 q1' q2')
  have HBL := Lib.hid (blockOfL_len r1 r2 ((m / 32 : Nat) : Int) (by omega) (by omega) (by omega))
  have HSB := Lib.hid (streamL_block r1 r2 m k2)
  have hj : 32 * (m / 32) ≤ m := by omega
  generalize hji : m / 32 = j at *
  clear CG q1' q2' hm hxt
  go_wp2_with fail
  refine CB.out.mono ?_
  rintro e W4 ⟨A5, n5, c5, rfl, o5, b5⟩
  have hn5 : 32 = n5 := by have h := o5.rd.len; rw [bv_len, HBL.out] at h; exact h
  subst hn5
  have B4 := bnext B3 b5
  have q3' := q3.below b5 (Nat.le_refl _)
  have q4' := q4.below b5 (Nat.le_refl _)
  have q5 := o5.rd
  have q5b := q5.bnd
  have HO4' := Lib.hid (HO4.out.below b5 (Nat.le_refl _))
  clear CB HBL o5 q3 q4 HO4
  have hmj : (32 : Int) * (j : Int) ≤ (m : Int) := by omega
  have hmc : (32 : Int) * (j : Int) ≤ (c4 : Int) := by omega
  have hj0 : (0 : Int) ≤ 32 * (j : Int) := by omega
  have hj1 : (32 * (j : Int)).toNat = 32 * j := by omega
  have qd := q4'.cut (32 * j) (m - 32 * j) (by omega)
  rw [bv_cut, List.take_of_length_le (by rw [List.length_drop]; omega)] at qd
  have CT := Lib.hid (fun A h => L_starts_yes A5 A 32 c5 (m - 32 * j) (c4 - 32 * j) _ _ W4 q5 h (by omega) HSB.out)
  have HJ := Lib.hid hj
  clear HO4' hj q5
  by_cases hc : c4 = 32 * j
  case' pos =>
    subst hc
    have hmz : m - 32 * j = 0 := by omega
    rw [if_pos rfl, Nat.sub_self, hmz] at qd
    rw [Nat.sub_self, hmz] at CT
    clear hmz
    have QD := Lib.hid qd
    clear qd
    go_wp2_with fail
  case' neg =>
    rw [if_neg hc] at qd
    have QD := Lib.hid qd
    clear qd
    go_wp2_with fail
  all_goals
    refine (CT.out _ QD.out).mono ?_
    rintro e W ⟨rfl, qe, rfl⟩
    clear CT QD HSB hmj hmc hj0 hj1
    have B5 := bdrewN B4 qe
    have q3 := q3'.drewN qe
    have q4 := q4'.drewN qe
    by_cases z0 : z < 0
    · have hn3 : n3 = 0 := by rw [streamL, if_neg (fun x => by have := x.1; omega)] at h3; simpa using h3.symm
      subst hn3
      clear h3 h4 e1 e2 k2 q3' q4'
      go_wp2_with fail
      go_ret
      exact ⟨rfl, B5⟩
    · by_cases z1 : 200 < z
      · have hn3 : n3 = 0 := by rw [streamL, if_neg (fun x => by have := x.1; omega)] at h3; simpa using h3.symm
        subst hn3
        clear h3 h4 e1 e2 k2 q3' q4'
        go_wp2_with fail
        go_ret
        exact ⟨rfl, B5⟩
      · have k1 : strOk r1 r2 z := ⟨by omega, by omega, by omega⟩
        have hn3 : z = (n3 : Int) := by have := streamL_len r1 r2 z k1; omega
        subst hn3
        by_cases hgt : m < n3
        · have hgt' : (m : Int) < (n3 : Int) := by omega
          have CT := Lib.hid (L_starts_yes A3 A4 n3 c3 m _ _ _ (W4.drewN qe) q3 q4 (by omega) (streamL_prefix r1 r2 m n3 k2 k1 (by omega)))
          clear h3 h4 e1 e2 k1 k2 q3' q4'
          go_wp2_with fail
          refine CT.out.mono ?_
          rintro e W ⟨rfl, qf, rfl⟩
          go_wp2_with fail
          go_ret
          exact ⟨rfl, by first | exact bdrewN B5 _ | exact bdrewN B4 _⟩
        · have hgt' : ¬ (m : Int) < (n3 : Int) := by omega
          have hle' : (n3 : Int) ≤ (m : Int) := by omega
          have CT := Lib.hid (L_starts_yes A4 A3 m _ n3 c3 _ _ (W4.drewN qe) q4 q3 (by omega) (streamL_prefix r1 r2 n3 m k1 k2 (by omega)))
          clear h3 h4 e1 e2 k1 k2 q3' q4'
          go_wp2_with fail
          refine CT.out.mono ?_
          rintro e W ⟨rfl, qf, rfl⟩
          go_wp2_with fail
          go_ret
          exact ⟨rfl, by first | exact bdrewN B5 _ | exact bdrewN B4 _⟩

set_option maxRecDepth 100000 in
theorem fnStreams_lifted (os : Os) (started : os.Started) (H : Type) (enc : TypeId × Value → H) :
    ReturnsInHanded {} Try.checked os 9 .any (Rows.fnStreamsSpec.pre6 enc Try.prog Try.f9 Rows.fnStreamsRow.domain false) (Rows.fnStreamsSpec.post enc Try.prog Try.f9 false true false false) := by
  refine returnsInHanded_of_change (C := Try.checked) own started (by kernel_rfl) Try.func9
    (ChangeSpec.witness6 (enc := enc) (C := Try.checked) false ⟨#[], #[.slice none 0 0], []⟩ 8 (by kernel_rfl) (by kernel_rfl) (by kernel_rfl) (by kernel_rfl)) ?_
  intro W base args ds gs before hval0 hW hcnd _
  have hval : ∀ (j : Nat) t v, Try.f9.params[j]? = some t → args[j]? = some v → Value.okWide Try.prog W .any base t v := hval0
  have hW' := hW
  obtain ⟨p, q, hA0, hV, rfl, hfz, hnd⟩ := hW
  have hA : DataW.TrodAll enc Try.prog W 0 (fun _ => true) true Try.f9.params.toList args.toList ds p := hA0
  rw [Try.params9] at hA hval
  obtain ⟨v0, vs0, d0, ds0, p0, q0, hargs, rfl, rfl, h0, r0⟩ := trodAll_cons hA
  obtain ⟨rfl, rfl, rfl⟩ := trodAll_nil r0
  obtain rfl : args = #[v0] := by cases args; simp_all
  obtain ⟨rfl, rfl⟩ := trodVars_none hV
  have k0 := h0
  have lt0 : ∀ x ∈ p0, x.block < W.heap.size := by obtain ⟨m, hm⟩ := k0; exact DataW.trod_lt m _ _ _ hm
  obtain ⟨A0, n0, c0, rfl⟩ := okWide_slice Try.underlying22 (hval 0 22 v0 rfl rfl)
  obtain ⟨l0, w0⟩ : ∃ l, Rd W A0 n0 c0 (bv l) := by
    obtain ⟨fuel, hf⟩ := h0
    exact open_bytes Try.underlying22 Try.underlying5 (by kernel_rfl) (by simpa [Value.cells] using hf)
  clear hA0 hval0
  refine (fnStreams_walk A0 n0 c0 l0 W w0).mono fun e W' ⟨he, bel⟩ => ?_
  subst he
  exact ⟨_, rfl, _, _, _, [], _, [], hW', trodAll_mk1 (shut_bool Try.underlying4 _), (trodAll_cons_mk (Below.trod laidOut (by kernel_rfl) (of_decide_eq_true (by kernel_rfl)) k0 bel lt0) trodAll_mk0), rfl, bel.frame _, fun h => by cases h⟩

theorem fnStreams_over : Rows.fnStreamsRow.holds Try.pinned (OpenSpec.ofChange Rows.fnStreamsSpec) :=
  OpenClaim.holds_of_wide 9 Try.f9 rfl rfl rfl rfl rfl rfl rfl ⟨rfl, rfl, rfl, rfl, rfl⟩ rfl rfl rfl rfl rfl (by kernel_rfl) Try.func9 (by kernel_rfl)
    (of_decide_eq_true (by kernel_rfl)) (by unfold Func.isWrapper; first | (rw [if_pos (by decide +kernel)]; kernel_rfl) | (rw [if_neg (by decide +kernel)]; exact ⟨rfl, rfl⟩))
    (fun os started H enc _ => fnStreams_lifted os started H enc)

/-- The statement. -/
theorem fnStreams_proved : Rows.FnStreamsSaid := fnStreams_over
#print axioms fnStreams_proved
end Go.Proofs.Ytbjbncmhnhlkpaa
