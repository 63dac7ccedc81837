/- Proved: for every input that reads as data, laws.FnRots of the given program returns true and leaves its arguments as they read. No condition of its own. -/
import Derived.Test.YtckdipncijhedaaBase
import Derived.Test.YtckdipncijhedaaLaw
import Derived.Test.YtckdipncijhedaaDrawH
import Derived.Test.YtckdipncijhedaaRotM
import Derived.Test.YtckdipncijhedaaWord
namespace Go.Proofs.Ytckdipncijhedaa
open Go.ChangeShapes Go.WideShapes Go.ChangeAt Go.RowKit
set_option linter.unusedVariables false

set_option maxRecDepth 100000 in
set_option maxHeartbeats 2000000 in
theorem fnRots_walk (A0 : Option Addr) (n0 c0 : Nat) (l0 : List UInt8) (w : World) (w0 : Rd w A0 n0 c0 (bv l0)) :
    Calls Try.prog 7 #[.slice A0 n0 c0] w fun e w' => e = .returned (.bool true) ∧ Below w.heap.size w w' := by
  have hb0 := w0.bnd
  by_cases hn : n0 ≤ 1048576
  rotate_left
  · have C := Lib.hid (L_big_yes A0 n0 c0 w hb0 hn)
    go_enter Try.func7, Try.ntmps7
    go_wp2_with fail
    refine C.out.mono ?_
    rintro e W ⟨rfl, rfl⟩
    go_wp2_with fail
    go_ret
    exact ⟨rfl, Below.refl _ _⟩
  have C := Lib.hid (L_big_no A0 n0 c0 w hb0 hn)
  go_enter Try.func7, Try.ntmps7
  go_wp2_with fail
  refine C.out.mono ?_
  rintro e W ⟨rfl, rfl⟩
  go_wp2_with fail
  refine (S_DrawRot A0 n0 c0 l0 w w0).mono ?_
  rintro e W1 ⟨x, z, rfl, hx, hz, B1⟩
  go_wp2_with fail
  refine (S_DrawAdd32 A0 n0 c0 l0 W1 (w0.below B1 (Nat.le_refl _))).mono ?_
  rintro e W2 ⟨a, b, rfl, ha, hb, b2⟩
  have B2 := bnext B1 b2
  unfold I64 at hx hz ha hb
  have hy := rot_bd x z
  have e1 : (b + a) % 4294967296 = (a + b) % 4294967296 := by rw [Int.add_comm]
  have hs : 0 ≤ (a + b) % 4294967296 ∧ (a + b) % 4294967296 < 4294967296 := by omega
  obtain ⟨hs0, hs1⟩ := hs
  obtain ⟨hy0, hy1⟩ := hy
  have hs2 : (a + b) % 4294967296 ≤ 4294967295 := by omega
  have hy2 : rot x z ≤ 4294967295 := by omega
  have CA := Lib.hid (fun W => I_Add32 a b W)
  have CB := Lib.hid (fun W => (I_Add32 b a W).mono fun e w' h => (⟨by rw [h.1, e1], h.2⟩ : e = .returned (.int .i64 ((a + b) % 4294967296)) ∧ W = w'))
  have CS := Lib.hid (fun W => S_Add32 a b W)
  have CR := Lib.hid (fun W => I_Rot x z W)
  have HB := Lib.hid (rot_back x z)
  have HO := Lib.hid (rot_out x z)
  generalize (a + b) % 4294967296 = s at *
  generalize rot x z = y at *
  clear e1
  go_wp2_with fail
  refine (CR.out _).mono ?_
  rintro e W ⟨rfl, q1, rfl⟩
  go_wp2_with fail
  refine (CA.out _).mono ?_
  rintro e W ⟨rfl, rfl⟩
  go_wp2_with fail
  refine (CB.out _).mono ?_
  rintro e W ⟨rfl, rfl⟩
  go_wp2_with fail
  refine (CS.out _).mono ?_
  rintro e W ⟨rfl, rfl⟩
  by_cases h1 : z < 1
  · have ey := HO.out (by omega)
    subst ey
    go_wp2_with fail
    go_ret
    exact ⟨rfl, bdrewN B2 _⟩
  · by_cases h2 : 31 < z
    · have ey := HO.out (by omega)
      subst ey
      go_wp2_with fail
      go_ret
      exact ⟨rfl, bdrewN B2 _⟩
    · have CK := Lib.hid (fun W => (I_Rot y (32 - z) W).mono fun e w' h => (⟨by rw [h.1, HB.out (by omega)], h.2⟩ : e = .returned (.int .i64 (x % 4294967296)) ∧ ∃ k, w' = W.drewN k))
      go_wp2_with fail
      refine (CK.out _).mono ?_
      rintro e W ⟨rfl, q2, rfl⟩
      go_wp2_with fail
      go_ret
      exact ⟨rfl, bdrewN B2 _⟩

set_option maxRecDepth 100000 in
theorem fnRots_lifted (os : Os) (started : os.Started) (H : Type) (enc : TypeId × Value → H) :
    ReturnsInHanded {} Try.checked os 7 .any (Rows.fnRotsSpec.pre6 enc Try.prog Try.f7 Rows.fnRotsRow.domain false) (Rows.fnRotsSpec.post enc Try.prog Try.f7 false true false false) := by
  refine returnsInHanded_of_change (C := Try.checked) own started (by kernel_rfl) Try.func7
    (ChangeSpec.witness6 (enc := enc) (C := Try.checked) false ⟨#[], #[.slice none 0 0], []⟩ 8 (by kernel_rfl) (by kernel_rfl) (by kernel_rfl) (by kernel_rfl)) ?_
  intro W base args ds gs before hval0 hW hcnd _
  have hval : ∀ (j : Nat) t v, Try.f7.params[j]? = some t → args[j]? = some v → Value.okWide Try.prog W .any base t v := hval0
  have hW' := hW
  obtain ⟨p, q, hA0, hV, rfl, hfz, hnd⟩ := hW
  have hA : DataW.TrodAll enc Try.prog W 0 (fun _ => true) true Try.f7.params.toList args.toList ds p := hA0
  rw [Try.params7] at hA hval
  obtain ⟨v0, vs0, d0, ds0, p0, q0, hargs, rfl, rfl, h0, r0⟩ := trodAll_cons hA
  obtain ⟨rfl, rfl, rfl⟩ := trodAll_nil r0
  obtain rfl : args = #[v0] := by cases args; simp_all
  obtain ⟨rfl, rfl⟩ := trodVars_none hV
  have k0 := h0
  have lt0 : ∀ x ∈ p0, x.block < W.heap.size := by obtain ⟨m, hm⟩ := k0; exact DataW.trod_lt m _ _ _ hm
  obtain ⟨A0, n0, c0, rfl⟩ := okWide_slice Try.underlying22 (hval 0 22 v0 rfl rfl)
  obtain ⟨l0, w0⟩ : ∃ l, Rd W A0 n0 c0 (bv l) := by
    obtain ⟨fuel, hf⟩ := h0
    exact open_bytes Try.underlying22 Try.underlying5 (by kernel_rfl) (by simpa [Value.cells] using hf)
  clear hA0 hval0
  refine (fnRots_walk A0 n0 c0 l0 W w0).mono fun e W' ⟨he, bel⟩ => ?_
  subst he
  exact ⟨_, rfl, _, _, _, [], _, [], hW', trodAll_mk1 (shut_bool Try.underlying4 _), (trodAll_cons_mk (Below.trod laidOut (by kernel_rfl) (of_decide_eq_true (by kernel_rfl)) k0 bel lt0) trodAll_mk0), rfl, bel.frame _, fun h => by cases h⟩

theorem fnRots_over : Rows.fnRotsRow.holds Try.pinned (OpenSpec.ofChange Rows.fnRotsSpec) :=
  OpenClaim.holds_of_wide 7 Try.f7 rfl rfl rfl rfl rfl rfl rfl ⟨rfl, rfl, rfl, rfl, rfl⟩ rfl rfl rfl rfl rfl (by kernel_rfl) Try.func7 (by kernel_rfl)
    (of_decide_eq_true (by kernel_rfl)) (by unfold Func.isWrapper; first | (rw [if_pos (by decide +kernel)]; kernel_rfl) | (rw [if_neg (by decide +kernel)]; exact ⟨rfl, rfl⟩))
    (fun os started H enc _ => fnRots_lifted os started H enc)

/-- The statement. -/
theorem fnRots_proved : Rows.FnRotsSaid := fnRots_over
#print axioms fnRots_proved
end Go.Proofs.Ytckdipncijhedaa
