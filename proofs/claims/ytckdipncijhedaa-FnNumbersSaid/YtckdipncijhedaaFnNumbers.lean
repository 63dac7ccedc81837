/- Proved: for every input that reads as data, laws.FnNumbers of the given program returns true and leaves its arguments as they read. No condition of its own. -/
import Derived.Test.YtckdipncijhedaaBase
import Derived.Test.YtckdipncijhedaaLaw
import Derived.Test.YtckdipncijhedaaDrawH
import Derived.Test.YtckdipncijhedaaNumM
namespace Go.Proofs.Ytckdipncijhedaa
open Go.ChangeShapes Go.WideShapes Go.ChangeAt Go.RowKit
set_option linter.unusedVariables false

theorem putN_starts (l : List UInt8) (n k : Int) : l = (putN l n k).take l.length := by
  unfold putN
  split
  · simp
  · simp
theorem mask8 (n : Int) : bits .and .i64 n 65535 = n % 65536 ∧ bits .and .i64 n 16777215 = n % 16777216 ∧ bits .and .i64 n 1099511627775 = n % 1099511627776 ∧ bits .and .i64 n 281474976710655 = n % 281474976710656 :=
  ⟨and_mask 16 _ n (by decide) (by decide), and_mask 24 _ n (by decide) (by decide), and_mask 40 _ n (by decide) (by decide), and_mask 48 _ n (by decide) (by decide)⟩

set_option maxRecDepth 100000 in
set_option maxHeartbeats 8000000 in
theorem fnNumbers_walk (A0 : Option Addr) (n0 c0 : Nat) (l0 : List UInt8) (w : World) (w0 : Rd w A0 n0 c0 (bv l0)) :
    Calls Try.prog 14 #[.slice A0 n0 c0] w fun e w' => e = .returned (.bool true) ∧ Below w.heap.size w w' := by
  have hb0 := w0.bnd
  by_cases hn : n0 ≤ 1048576
  rotate_left
  · have C := Lib.hid (L_big_yes A0 n0 c0 w hb0 hn)
    go_enter Try.func14, Try.ntmps14
    go_wp2_with fail
    refine C.out.mono ?_
    rintro e W ⟨rfl, rfl⟩
    go_wp2_with fail
    go_ret
    exact ⟨rfl, Below.refl _ _⟩
  have C := Lib.hid (L_big_no A0 n0 c0 w hb0 hn)
  go_enter Try.func14, Try.ntmps14
  go_wp2_with fail
  refine C.out.mono ?_
  rintro e W ⟨rfl, rfl⟩
  go_wp2_with fail
  refine (S_DrawPutN A0 n0 c0 l0 w w0).mono ?_
  rintro e W1 ⟨A1, n1, c1, r1, x, z, rfl, ⟨o1, l1⟩, hx, hz, B1⟩
  unfold I64 at hx
  have hr1 : r1.length = n1 := by have := o1.rd.len; rwa [bv_len] at this
  have q1 := o1.rd
  have q1b := q1.bnd
  go_wp2_with fail
  refine (I_PutN A1 n1 c1 r1 x z W1 q1 (by omega)).mono ?_
  rintro e W2 ⟨A2, n2, c2, rfl, o2, b2⟩
  have hr2 : (putN r1 x z).length = n2 := by have := o2.rd.len; rwa [bv_len] at this
  have B2 := bnext B1 b2
  have q2 := o2.rd
  have q2b := q2.bnd
  have q1' := q1.below b2 (Nat.le_refl _)
  clear q1 o1 o2
  go_wp2_with fail
  refine (S_DrawGetN A0 n0 c0 l0 W2 (w0.below B2 (Nat.le_refl _))).mono ?_
  rintro e W3 ⟨A3, n3, c3, r3, y, z3, rfl, ⟨o3, l3⟩, hy, hz3, b3⟩
  have hyr : -9223372036854775808 ≤ y ∧ y ≤ 9223372036854775807 := by simp at hy; omega
  have hz3r : -9223372036854775808 ≤ z3 ∧ z3 ≤ 9223372036854775807 := by simp at hz3; omega
  have hr3 : r3.length = n3 := by have := o3.rd.len; rwa [bv_len] at this
  have B3 := bnext B2 b3
  have q1 := q1'.below b3 (Nat.le_refl _)
  have q2 := q2.below b3 (Nat.le_refl _)
  have q3 := o3.rd
  have q3b := q3.bnd
  have CG := Lib.hid (I_GetN A3 n3 c3 r3 y z3 W3 q3 (by omega))
  have CS := Lib.hid (fun W h => S_GetN A3 n3 c3 r3 y z3 W h)
  generalize getN r3 y z3 = v1 at *
  generalize getE r3 y z3 = v2 at *
  generalize getB r3 y z3 = v3 at *
  clear hy hz3 o3 q1'
  go_wp2_with fail
  refine CG.out.mono ?_
  rintro e W4 ⟨rfl, b4⟩
  have B4 := bnext B3 b4
  go_wp2_with fail
  refine (CS.out _ (q3.below b4 (Nat.le_refl _))).mono ?_
  rintro e W ⟨rfl, rfl⟩
  have q1 := q1.below b4 (Nat.le_refl _)
  have q2 := q2.below b4 (Nat.le_refl _)
  have hle : n1 ≤ n2 := by
    rw [putN] at hr2
    split at hr2
    · rw [List.length_append] at hr2; omega
    · omega
  have CT := Lib.hid (L_starts_yes A2 A1 n2 c2 n1 c1 (putN r1 x z) r1 W4 q2 q1 hle (by rw [← hr1]; exact putN_starts r1 x z))
  clear CG CS q3 q1
  go_wp2_with fail
  refine CT.out.mono ?_
  rintro e W ⟨rfl, qd, rfl⟩
  by_cases hk : 1 ≤ z ∧ z ≤ 6
  rotate_left
  · have e2 : n2 = n1 := by rw [putN, if_neg hk] at hr2; omega
    subst e2
    by_cases h1 : z < 1
    · clear hk
      go_wp2_with fail
      go_ret
      exact ⟨rfl, bdrewN B4 _⟩
    · have h2 : 6 < z := by omega
      clear hk
      go_wp2_with fail
      go_ret
      exact ⟨rfl, bdrewN B4 _⟩
  have e2 : n2 = n1 + z.toNat := by rw [putN, if_pos hk, List.length_append, putL_len] at hr2; omega
  have hg := getN_put r1 x z hk
  rw [hr1] at hg
  have q2 := q2.drewN qd
  have B5 := bdrewN B4 qd
  have cutl : (putN r1 x z).take (n2 - 1) = (putN r1 x z).take (n2 - 1) := rfl
  have hpos : 0 < n2 := by omega
  obtain ⟨bb, off, rfl, hlb, _⟩ := q2.at_ hpos
  have qc := q2.pre (m := n2 - 1) (by omega)
  rw [bv_pre] at qc
  have hcut : getB ((putN r1 x z).take (n2 - 1)) n1 z = false := by
    have := getB_cut r1 ((putN r1 x z).take (n2 - 1)) z (by rw [List.length_take]; omega)
    rwa [hr1] at this
  have G1 := Lib.hid (I_GetN (some ⟨bb, off, none⟩) n2 c2 (putN r1 x z) n1 z (W4.drewN qd) q2 (by omega))
  have hge : getE (putN r1 x z) n1 z = (n2 : Int) := by rw [getE, if_pos hg.1]; omega
  rw [show getB (putN r1 x z) n1 z = true from decide_eq_true hg.1, hg.2, hge] at G1
  have G2 := Lib.hid (fun W h => I_GetN (some ⟨bb, off, none⟩) (n2 - 1) c2 ((putN r1 x z).take (n2 - 1)) n1 z W h (by omega))
  rw [hcut] at G2
  have QC := Lib.hid qc
  have t1 : ((n2 : Int) - 1).toNat = n2 - 1 := by omega
  have t2 : (0 : Int) ≤ (n2 : Int) - 1 := by omega
  have t3 : (n2 : Int) - 1 ≤ (c2 : Int) := by omega
  have t4 : (n2 : Int) = (n1 : Int) + z := by omega
  have T4 := Lib.hid t4
  generalize getN ((putN r1 x z).take (n2 - 1)) n1 z = u1 at *
  generalize getE ((putN r1 x z).take (n2 - 1)) n1 z = u2 at *
  obtain ⟨m1, m2, m3, m4⟩ := mask8 x
  clear hg hge hcut qc cutl hr2 hle CT q2 t4 e2
  go_wp2_with fail
  refine G1.out.mono ?_
  rintro e W6 ⟨rfl, b6⟩
  have B6 := bnext B5 b6
  go_wp2_with fail
  refine (G2.out _ (QC.out.below b6 (Nat.le_refl _))).mono ?_
  rintro e W7 ⟨rfl, b7⟩
  have B7 := bnext B6 b7
  have T := T4.out
  clear G1 G2 QC T4 t1 t2 t3 b6 b7 b2 b3 b4 hlb
  have hzz : z = 1 ∨ z = 2 ∨ z = 3 ∨ z = 4 ∨ z = 5 ∨ z = 6 := by omega
  rcases hzz with rfl | rfl | rfl | rfl | rfl | rfl
  · obtain rfl : n2 = n1 + 1 := by omega
    clear T hpos
    go_wp2_with fail
    go_ret
    exact ⟨rfl, B7⟩
  · obtain rfl : n2 = n1 + 2 := by omega
    clear T hpos
    go_wp2_with fail
    go_ret
    exact ⟨rfl, B7⟩
  · obtain rfl : n2 = n1 + 3 := by omega
    clear T hpos
    go_wp2_with fail
    go_ret
    exact ⟨rfl, B7⟩
  · obtain rfl : n2 = n1 + 4 := by omega
    clear T hpos
    go_wp2_with fail
    go_ret
    exact ⟨rfl, B7⟩
  · obtain rfl : n2 = n1 + 5 := by omega
    clear T hpos
    go_wp2_with fail
    go_ret
    exact ⟨rfl, B7⟩
  · obtain rfl : n2 = n1 + 6 := by omega
    clear T hpos
    go_wp2_with fail
    go_ret
    exact ⟨rfl, B7⟩

set_option maxRecDepth 100000 in
theorem fnNumbers_lifted (os : Os) (started : os.Started) (H : Type) (enc : TypeId × Value → H) :
    ReturnsInHanded {} Try.checked os 14 .any (Rows.fnNumbersSpec.pre6 enc Try.prog Try.f14 Rows.fnNumbersRow.domain false) (Rows.fnNumbersSpec.post enc Try.prog Try.f14 false true false false) := by
  refine returnsInHanded_of_change (C := Try.checked) own started (by kernel_rfl) Try.func14
    (ChangeSpec.witness6 (enc := enc) (C := Try.checked) false ⟨#[], #[.slice none 0 0], []⟩ 8 (by kernel_rfl) (by kernel_rfl) (by kernel_rfl) (by kernel_rfl)) ?_
  intro W base args ds gs before hval0 hW hcnd _
  have hval : ∀ (j : Nat) t v, Try.f14.params[j]? = some t → args[j]? = some v → Value.okWide Try.prog W .any base t v := hval0
  have hW' := hW
  obtain ⟨p, q, hA0, hV, rfl, hfz, hnd⟩ := hW
  have hA : DataW.TrodAll enc Try.prog W 0 (fun _ => true) true Try.f14.params.toList args.toList ds p := hA0
  rw [Try.params14] at hA hval
  obtain ⟨v0, vs0, d0, ds0, p0, q0, hargs, rfl, rfl, h0, r0⟩ := trodAll_cons hA
  obtain ⟨rfl, rfl, rfl⟩ := trodAll_nil r0
  obtain rfl : args = #[v0] := by cases args; simp_all
  obtain ⟨rfl, rfl⟩ := trodVars_none hV
  have k0 := h0
  have lt0 : ∀ x ∈ p0, x.block < W.heap.size := by obtain ⟨m, hm⟩ := k0; exact DataW.trod_lt m _ _ _ hm
  obtain ⟨A0, n0, c0, rfl⟩ := okWide_slice Try.underlying22 (hval 0 22 v0 rfl rfl)
  obtain ⟨l0, w0⟩ : ∃ l, Rd W A0 n0 c0 (bv l) := by
    obtain ⟨fuel, hf⟩ := h0
    exact open_bytes Try.underlying22 Try.underlying5 (by kernel_rfl) (by simpa [Value.cells] using hf)
  clear hA0 hval0
  refine (fnNumbers_walk A0 n0 c0 l0 W w0).mono fun e W' ⟨he, bel⟩ => ?_
  subst he
  exact ⟨_, rfl, _, _, _, [], _, [], hW', trodAll_mk1 (shut_bool Try.underlying4 _), (trodAll_cons_mk (Below.trod laidOut (by kernel_rfl) (of_decide_eq_true (by kernel_rfl)) k0 bel lt0) trodAll_mk0), rfl, bel.frame _, fun h => by cases h⟩

theorem fnNumbers_over : Rows.fnNumbersRow.holds Try.pinned (OpenSpec.ofChange Rows.fnNumbersSpec) :=
  OpenClaim.holds_of_wide 14 Try.f14 rfl rfl rfl rfl rfl rfl rfl ⟨rfl, rfl, rfl, rfl, rfl⟩ rfl rfl rfl rfl rfl (by kernel_rfl) Try.func14 (by kernel_rfl)
    (of_decide_eq_true (by kernel_rfl)) (by unfold Func.isWrapper; first | (rw [if_pos (by decide +kernel)]; kernel_rfl) | (rw [if_neg (by decide +kernel)]; exact ⟨rfl, rfl⟩))
    (fun os started H enc _ => fnNumbers_lifted os started H enc)

/-- The statement. -/
theorem fnNumbers_proved : Rows.FnNumbersSaid := fnNumbers_over
#print axioms fnNumbers_proved
end Go.Proofs.Ytckdipncijhedaa
