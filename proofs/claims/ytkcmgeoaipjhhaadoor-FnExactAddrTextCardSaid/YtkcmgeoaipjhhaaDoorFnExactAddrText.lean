/- Proved: for every input that reads as data, laws.FnExactAddrText of the given program returns true and leaves its arguments as they read, where the listed variables of the library hold what the program's text lays in them (the card ties them). No condition of its own. -/
import Derived.Test.YtkcmgeoaipjhhaaDoorCard0
import Derived.Test.YtkcmgeoaipjhhaaDoorTextI
import Derived.Test.YtkcmgeoaipjhhaaDoorTextS
namespace Go.Proofs.YtkcmgeoaipjhhaaDoor
open Go.ChangeShapes Go.WideShapes Go.ChangeAt Go.RowKit
set_option linter.unusedVariables false

set_option maxRecDepth 100000 in
theorem fnExactAddrText_walk (a0 b0 : Int) (w : World) (w0 : -9223372036854775808 ≤ a0 ∧ a0 ≤ 9223372036854775807) (x0 : -9223372036854775808 ≤ b0 ∧ b0 ≤ 9223372036854775807) (E : Env w) :
    Calls Tryd.prog 6 #[.agg #[.int .i64 a0, .int .i64 b0]] w fun e w' => e = .returned (.bool true) ∧ Below w.heap.size w w' := by
  have B := balloc (Below.refl _ w) (.cells #[.int .i64 a0, .int .i64 b0] 41)
  go_enter Tryd.func6, Tryd.ntmps6
  go_wp2_with fail
  refine (L_toAddr a0 b0 _).mono ?_
  rintro e W1 ⟨rfl, b1⟩
  replace B := bnext B b1
  have c1 : ∀ o, W1.cell? ⟨w.heap.size, o, none⟩ = (w.alloc (.cells #[.int .i64 a0, .int .i64 b0] 41)).cell? ⟨w.heap.size, o, none⟩ := fun o => b1.cell (by simp)
  have s1 : w.heap.size < W1.heap.size := by have := b1.size; simp at this; omega
  go_wp2_with fail
  refine (S_AddrText a0 b0 _).mono ?_
  rintro e W2 ⟨rfl, b2⟩
  replace B := bnext B b2
  have c2 : ∀ o, W2.cell? ⟨w.heap.size, o, none⟩ = (w.alloc (.cells #[.int .i64 a0, .int .i64 b0] 41)).cell? ⟨w.heap.size, o, none⟩ := fun o => (b2.cell s1).trans (c1 o)
  clear c1
  go_wp2_with fail
  refine (L_toAddr a0 b0 _).mono ?_
  rintro e W3 ⟨rfl, b3⟩
  replace B := bnext B b3
  go_wp2_with fail
  refine (I_AddrText a0 b0 _ (env_below E B)).mono ?_
  rintro e W4 ⟨rfl, b4⟩
  replace B := bnext B b4
  go_wp2_with fail
  go_ret
  exact ⟨rfl, B⟩

theorem fnExactAddrText_cellsA : Tryd.prog.cellsOf 41 = 2 := by kernel_rfl
set_option maxRecDepth 100000 in
theorem fnExactAddrText_lifted (os : Os) (started : os.Started) (H : Type) (enc : TypeId × Value → H) (F : Stop.Interp) :
    ReturnsInHanded {} Tryd.checked os 6 .any ((OpenSpec.ofChange Rows.fnExactAddrTextSpec).preRow enc Tryd.prog Tryd.f6 Rows.fnExactAddrTextRow.domain false Rows.fnExactAddrTextRow.laid) (((OpenSpec.ofChange Rows.fnExactAddrTextSpec).at F).post enc Tryd.prog Tryd.f6 false true false false) := by
  refine returnsInHanded_of_row (C := Tryd.checked) (s := OpenSpec.ofChange Rows.fnExactAddrTextSpec) own started (by kernel_rfl) Tryd.func6
    (ChangeSpec.witness_shaped (enc := enc) (C := Tryd.checked) (os := os) (s := Rows.fnExactAddrTextSpec) (X := fun w _ => laidMetH Tryd.prog Rows.fnExactAddrTextRow.laid w) false (World.laidAll Tryd.prog os Rows.fnExactAddrTextRow.laid) #[.agg #[.int .i64 0, .int .i64 0]] 8 (World.laidAll_os _ _ _)
      (World.shaped_of_ZipB (by kernel_rfl) (by kernel_rfl)) (by kernel_rfl) (by kernel_rfl) (by kernel_rfl)
      (by rw [MakeChecks.laidMetH_plain _ _ _ (by kernel_rfl)]; exact laidMet_laidAll _ (by kernel_rfl) (by kernel_rfl))) ?_
  intro W base args ds gs before hval0 hW _ _ _ hL hsh _
  have hval : ∀ (j : Nat) t v, Tryd.f6.params[j]? = some t → args[j]? = some v → Value.okWide Tryd.prog W .any base t v := hval0
  have hW' := hW
  obtain ⟨p, q, hA0, hV, rfl, hfz, hnd⟩ := hW
  have hA : DataW.TrodAll enc Tryd.prog W 0 (fun _ => true) true Tryd.f6.params.toList args.toList ds p := hA0
  rw [Tryd.params6] at hA hval
  obtain ⟨v0, vs0, d0, ds0, p0, q0, hargs, rfl, rfl, h0, r0⟩ := trodAll_cons hA
  obtain ⟨rfl, rfl, rfl⟩ := trodAll_nil r0
  obtain rfl : args = #[v0] := by cases args; simp_all
  obtain ⟨rfl, rfl⟩ := trodVars_none hV
  have k0 := h0
  have lt0 : ∀ x ∈ p0, x.block < W.heap.size := by obtain ⟨m, hm⟩ := k0; exact DataW.trod_lt m _ _ _ hm
  obtain ⟨u0, u'0, y0, y'0, m0, rfl, rfl, rfl, g0, g'0⟩ := Joins.open_agg2 Tryd.underlying41 (by kernel_rfl) fnExactAddrText_cellsA (hval 0 41 v0 rfl rfl) h0
  obtain ⟨a0, e0, rfl, w0⟩ := DataW.trod_int Tryd.underlying3 g0
  obtain ⟨b0, e'0, rfl, x0⟩ := DataW.trod_int Tryd.underlying3 g'0
  simp only [List.cons.injEq, and_true] at e0 e'0
  subst e0; subst e'0
  clear hA0 hval0
  refine (fnExactAddrText_walk a0 b0 W (bounds64 w0) (bounds64 x0) (env_of_text hL)).mono fun e W' ⟨he, bel⟩ => ?_
  subst he
  exact ⟨_, rfl, _, _, _, [], _, [], hW', trodAll_mk1 (shut_bool Tryd.underlying4 _), (trodAll_cons_mk (Below.trod laidOut (by kernel_rfl) (of_decide_eq_true (by kernel_rfl)) k0 bel lt0) trodAll_mk0), rfl, bel.frame _, fun h => by cases h⟩

theorem fnExactAddrText_row : Rows.FnExactAddrTextSaid :=
  OpenClaim.holds_of_cond 6 Tryd.f6 rfl rfl rfl rfl rfl rfl rfl ⟨rfl, rfl, rfl, rfl, rfl⟩ rfl rfl rfl rfl rfl (by kernel_rfl) Tryd.func6 (by kernel_rfl)
    (of_decide_eq_true (by kernel_rfl)) (by unfold Func.isWrapper; first | (rw [if_pos (by decide +kernel)]; kernel_rfl) | (rw [if_neg (by decide +kernel)]; exact ⟨rfl, rfl⟩))
    (fun os started H enc _ F => by rw [OpenClaim.pre_eq_preRow]; exact fnExactAddrText_lifted os started H enc F)

theorem fnExactAddrText_plain (f : FuncId) (fn : Func) (hf : Tryd.pinned.checked.prog.funcNamed Rows.fnExactAddrTextRow.func = some f) (hfn : Tryd.pinned.checked.prog.funcs[f]? = some fn) :
    true = Tryd.pinned.checked.prog.looks [] ∧ ∀ (j : Nat) t, fn.params[j]? = some t → Tryd.pinned.checked.prog.wantsStandIn t = false := by
  obtain rfl : f = 6 := Option.some.inj ((show Tryd.prog.funcNamed Rows.fnExactAddrTextRow.func = some 6 by kernel_rfl).symm.trans hf) |>.symm
  obtain rfl : fn = Tryd.f6 := (Option.some.inj (Tryd.func6.symm.trans hfn)).symm
  refine ⟨by kernel_rfl, fun j t ht => ?_⟩
  rw [Tryd.params6] at ht
  obtain rfl : t = 41 := by simpa using Array.mem_of_getElem? ht
  exact (show Tryd.prog.wantsStandIn 41 = false by kernel_rfl)

/-- The statement: the card. -/
theorem fnExactAddrText_proved : Rows.FnExactAddrTextCardSaid :=
  Claim7.holds_tied_plain_at .later [] _ _ _ _ fnExactAddrText_row (fun _ h => by cases h) (by kernel_rfl) (fun _ h => by cases h) fnExactAddrText_row_tie rfl ⟨rfl, rfl⟩ (by kernel_rfl) rfl fnExactAddrText_plain (by kernel_rfl)
#print axioms fnExactAddrText_proved
end Go.Proofs.YtkcmgeoaipjhhaaDoor
