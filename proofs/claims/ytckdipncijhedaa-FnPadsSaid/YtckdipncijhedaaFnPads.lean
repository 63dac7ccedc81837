/- Proved: for every input that reads as data, laws.FnPads of the given program returns true and leaves its arguments as they read. No condition of its own. -/
import Derived.Test.YtckdipncijhedaaBase
import Derived.Test.YtckdipncijhedaaLaw
import Derived.Test.YtckdipncijhedaaDrawH
import Derived.Test.YtckdipncijhedaaNumM
namespace Go.Proofs.Ytckdipncijhedaa
open Go.ChangeShapes Go.WideShapes Go.ChangeAt Go.RowKit
set_option linter.unusedVariables false

set_option maxRecDepth 100000 in
set_option maxHeartbeats 2000000 in
theorem fnPads_walk (A0 : Option Addr) (n0 c0 : Nat) (l0 : List UInt8) (w : World) (w0 : Rd w A0 n0 c0 (bv l0)) :
    Calls Try.prog 12 #[.slice A0 n0 c0] w fun e w' => e = .returned (.bool true) ∧ Below w.heap.size w w' := by
  have hb0 := w0.bnd
  by_cases hn : n0 ≤ 1048576
  rotate_left
  · have C := Lib.hid (L_big_yes A0 n0 c0 w hb0 hn)
    go_enter Try.func12, Try.ntmps12
    go_wp2_with fail
    refine C.out.mono ?_
    rintro e W ⟨rfl, rfl⟩
    go_wp2_with fail
    go_ret
    exact ⟨rfl, Below.refl _ _⟩
  have C := Lib.hid (L_big_no A0 n0 c0 w hb0 hn)
  go_enter Try.func12, Try.ntmps12
  go_wp2_with fail
  refine C.out.mono ?_
  rintro e W ⟨rfl, rfl⟩
  go_wp2_with fail
  refine (S_DrawPad A0 n0 c0 l0 w w0).mono ?_
  rintro e W1 ⟨x, rfl, hx, B1⟩
  unfold I64 at hx
  go_wp2_with fail
  refine (I_Pad x W1).mono ?_
  rintro e W2 ⟨A1, n1, c1, rfl, o1, b2⟩
  have B2 := bnext B1 b2
  by_cases hr : 0 ≤ x ∧ x ≤ 1048576
  rotate_left
  · have hp0 : n1 = 0 := by have h1 := o1.rd.len; rw [padL, if_neg hr] at h1; simpa [bv] using h1.symm
    subst hp0
    by_cases hx0 : x < 0
    · clear hr
      go_wp2_with fail
      go_ret
      exact ⟨rfl, B2⟩
    · have hx1 : 1048576 < x := by omega
      clear hr
      go_wp2_with fail
      go_ret
      exact ⟨rfl, B2⟩
  obtain ⟨hx0, hx1⟩ := hr
  obtain ⟨q, rfl⟩ := Int.eq_ofNat_of_zero_le hx0
  have hq : q ≤ 1048576 := by omega
  have hs := padL_size q hq
  have hz := padZ_lt q
  have hsum := padZ_sum q
  have hn1 : (padL q).length = n1 := by have h1 := o1.rd.len; rwa [bv_len] at h1
  have h9 : 9 ≤ n1 := by omega
  have h72 : n1 ≤ 72 := by omega
  have hmod : ((q : Int) + (n1 : Int)) % 64 = 0 := by omega
  have F0 := padL_first q hq
  have FM := Lib.hid (fun i => padL_mid q i hq)
  have FN := Lib.hid (padL_num q hq)
  rw [hn1] at FN FM
  have r1 := o1.rd
  have r1b := r1.bnd
  obtain ⟨b, off, rfl, hlb, hcl⟩ := r1.at_ (by omega)
  have fc0 : W2.cell? ⟨b, off, none⟩ = some (.int .u8 128) := by
    have h := hcl 0 (.int .u8 128) (by simp [bv, F0])
    simpa using h
  have FC : Hid (∀ i, 1 ≤ i → i + 4 < n1 → W2.cell? ⟨b, off + i, none⟩ = some (.int .u8 0)) := fun i h1 h2 => hcl i _ (by simp [bv, FM.out i h1 h2])
  have CG := Lib.hid (I_GetN (some ⟨b, off, none⟩) n1 c1 (padL q) ((n1 : Int) - 4) 4 W2 r1 (by omega))
  rw [FN.out.2, show getB (padL q) ((n1 : Int) - 4) 4 = true from decide_eq_true FN.out.1] at CG
  generalize getE (padL q) ((n1 : Int) - 4) 4 = ee at *
  clear hs hz hsum hn1 F0 FM FN hcl o1 r1
  go_wp2_with fail
  go_loopw [5] (fun i wr => ∃ k : Nat, i = .int .i64 k ∧ 1 ≤ k ∧ k + 4 ≤ n1 ∧ W2 = wr)
    (fun i _ => n1 - (intOf i).toNat)
  case atStart => exact ⟨1, rfl, by omega, by omega, by first | rfl | trivial⟩
  case round =>
    obtain ⟨k, rfl, hk1, hk2, rfl⟩ := hrel
    by_cases hlt : k + 4 < n1
    · have hlt' : (k : Int) < (n1 : Int) - 4 := by omega
      have fx := FC.out k hk1 hlt
      have hkn : (k : Int) < (n1 : Int) := by omega
      go_wp2_with fail
      go_roundw
      case rel => exact ⟨k + 1, by go_num, by omega, by omega, by first | rfl | trivial⟩
      case measure => simp [intOf]; omega
    · have hlt' : ¬ (k : Int) < (n1 : Int) - 4 := by omega
      go_wp2_with fail
      refine CG.out.mono ?_
      rintro e W3 ⟨rfl, b3⟩
      go_wp2_with fail
      go_ret
      exact ⟨rfl, bnext B2 b3⟩

set_option maxRecDepth 100000 in
theorem fnPads_lifted (os : Os) (started : os.Started) (H : Type) (enc : TypeId × Value → H) :
    ReturnsInHanded {} Try.checked os 12 .any (Rows.fnPadsSpec.pre6 enc Try.prog Try.f12 Rows.fnPadsRow.domain false) (Rows.fnPadsSpec.post enc Try.prog Try.f12 false true false false) := by
  refine returnsInHanded_of_change (C := Try.checked) own started (by kernel_rfl) Try.func12
    (ChangeSpec.witness6 (enc := enc) (C := Try.checked) false ⟨#[], #[.slice none 0 0], []⟩ 8 (by kernel_rfl) (by kernel_rfl) (by kernel_rfl) (by kernel_rfl)) ?_
  intro W base args ds gs before hval0 hW hcnd _
  have hval : ∀ (j : Nat) t v, Try.f12.params[j]? = some t → args[j]? = some v → Value.okWide Try.prog W .any base t v := hval0
  have hW' := hW
  obtain ⟨p, q, hA0, hV, rfl, hfz, hnd⟩ := hW
  have hA : DataW.TrodAll enc Try.prog W 0 (fun _ => true) true Try.f12.params.toList args.toList ds p := hA0
  rw [Try.params12] at hA hval
  obtain ⟨v0, vs0, d0, ds0, p0, q0, hargs, rfl, rfl, h0, r0⟩ := trodAll_cons hA
  obtain ⟨rfl, rfl, rfl⟩ := trodAll_nil r0
  obtain rfl : args = #[v0] := by cases args; simp_all
  obtain ⟨rfl, rfl⟩ := trodVars_none hV
  have k0 := h0
  have lt0 : ∀ x ∈ p0, x.block < W.heap.size := by obtain ⟨m, hm⟩ := k0; exact DataW.trod_lt m _ _ _ hm
  obtain ⟨A0, n0, c0, rfl⟩ := okWide_slice Try.underlying22 (hval 0 22 v0 rfl rfl)
  obtain ⟨l0, w0⟩ : ∃ l, Rd W A0 n0 c0 (bv l) := by
    obtain ⟨fuel, hf⟩ := h0
    exact open_bytes Try.underlying22 Try.underlying5 (by kernel_rfl) (by simpa [Value.cells] using hf)
  clear hA0 hval0
  refine (fnPads_walk A0 n0 c0 l0 W w0).mono fun e W' ⟨he, bel⟩ => ?_
  subst he
  exact ⟨_, rfl, _, _, _, [], _, [], hW', trodAll_mk1 (shut_bool Try.underlying4 _), (trodAll_cons_mk (Below.trod laidOut (by kernel_rfl) (of_decide_eq_true (by kernel_rfl)) k0 bel lt0) trodAll_mk0), rfl, bel.frame _, fun h => by cases h⟩

theorem fnPads_over : Rows.fnPadsRow.holds Try.pinned (OpenSpec.ofChange Rows.fnPadsSpec) :=
  OpenClaim.holds_of_wide 12 Try.f12 rfl rfl rfl rfl rfl rfl rfl ⟨rfl, rfl, rfl, rfl, rfl⟩ rfl rfl rfl rfl rfl (by kernel_rfl) Try.func12 (by kernel_rfl)
    (of_decide_eq_true (by kernel_rfl)) (by unfold Func.isWrapper; first | (rw [if_pos (by decide +kernel)]; kernel_rfl) | (rw [if_neg (by decide +kernel)]; exact ⟨rfl, rfl⟩))
    (fun os started H enc _ => fnPads_lifted os started H enc)

/-- The statement. -/
theorem fnPads_proved : Rows.FnPadsSaid := fnPads_over
#print axioms fnPads_proved
end Go.Proofs.Ytckdipncijhedaa
