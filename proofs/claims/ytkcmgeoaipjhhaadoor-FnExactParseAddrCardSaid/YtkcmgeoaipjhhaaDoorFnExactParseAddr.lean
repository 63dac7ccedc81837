/- Proved: for every input that reads as data, laws.FnExactParseAddr of the given program returns true and leaves its arguments as they read, where the listed variables of the library hold what the program's text lays in them (the card ties them). No condition of its own. -/
import Derived.Test.YtkcmgeoaipjhhaaDoorCard0
import Derived.Test.YtkcmgeoaipjhhaaDoorPrsI
import Derived.Test.YtkcmgeoaipjhhaaDoorPrsS
namespace Go.Proofs.YtkcmgeoaipjhhaaDoor
open Go.ChangeShapes Go.WideShapes Go.ChangeAt Go.RowKit
set_option linter.unusedVariables false

theorem prs_eq (r : Int × Int × Bool) : prsV r = .tuple #[.agg #[.int .i64 r.1, .int .i64 r.2.1], .bool r.2.2] ∧ prsS r = .tuple #[.agg #[.int .i64 r.1, .int .i64 r.2.1], .bool r.2.2] := ⟨rfl, rfl⟩
theorem eqAd_self (a b : Int) : eqAd a b a b = true := by simp [eqAd]
set_option maxRecDepth 100000 in
set_option maxHeartbeats 1000000 in
theorem fnExactParseAddr_walk (s0 : ByteArray) (w : World) (w0 : s0.size ≤ maxLen) (E : EnvP w) :
    Calls Tryd.prog 3 #[.string s0] w fun e w' => e = .returned (.bool true) ∧ Below w.heap.size w w' := by
  by_cases hn0 : s0.size ≤ 1048576
  rotate_left
  · have hb0 := w0; unfold maxLen at hb0
    go_enter Tryd.func3, Tryd.ntmps3
    go_wp2_with fail
    go_ret
    exact ⟨rfl, Below.refl _ _⟩
  have hb0 := w0; unfold maxLen at hb0
  have CS := Lib.hid fun W => S_ParseAddr s0 W hn0
  have CI := Lib.hid fun W h => I_ParseAddr s0 W hn0 h
  rw [← implR_specR] at CS
  have HP := Lib.hid (prs_eq (implR s0.data.toList))
  rw [HP.out.1] at CI
  rw [HP.out.2] at CS
  clear HP
  generalize implR s0.data.toList = r at *
  obtain ⟨h, v, b⟩ := r
  have CE := Lib.hid fun W => (L_eqAddr h v h v W).mono fun e w' h' => (⟨by rw [h'.1, eqAd_self], h'.2⟩ : e = .returned (.bool true) ∧ Below W.heap.size W w')
  simp only at CS CI
  have B : Below w.heap.size w w := Below.refl _ _
  go_enter Tryd.func3, Tryd.ntmps3
  go_wp2_with fail
  refine (CS.out _).mono ?_
  rintro e W1 ⟨rfl, b1⟩
  replace B := bnext B b1
  obtain ⟨W2, hW2⟩ : ∃ V, V = W1.alloc (.cells #[.int .i64 h, .int .i64 v] 23) := ⟨_, rfl⟩
  have b2 : Below W1.heap.size W1 W2 := by rw [hW2]; exact balloc (Below.refl _ _) _
  have z2 : W1.heap.size < W2.heap.size := by rw [hW2]; simp
  have c20 : W2.cell? ⟨W1.heap.size, 0, none⟩ = some (.int .i64 h) := by rw [hW2]; simp [go_sem]
  have c21 : W2.cell? ⟨W1.heap.size, 1, none⟩ = some (.int .i64 v) := by rw [hW2]; simp [go_sem]
  replace B := bnext B b2
  have HW := Lib.hid hW2
  have E2 := E.below B
  have CI2 := Lib.hid (CI.out W2 E2)
  clear hW2
  go_wp2_with fail
  rw [← HW.out]
  refine CI2.out.mono ?_
  rintro e W3 ⟨rfl, b3⟩
  replace B := bnext B b3
  have c30 := (b3.cell (p := ⟨W1.heap.size, 0, none⟩) z2).trans c20
  have c31 := (b3.cell (p := ⟨W1.heap.size, 1, none⟩) z2).trans c21
  have z3 := Nat.lt_of_lt_of_le z2 b3.size
  have e30 : (W3.alloc (.cells #[.int .i64 h, .int .i64 v] 23)).cell? ⟨W1.heap.size, 0, none⟩ = some (.int .i64 h) := (World.cell?_alloc_lt W3 _ ⟨W1.heap.size, 0, none⟩ z3).trans c30
  have e31 : (W3.alloc (.cells #[.int .i64 h, .int .i64 v] 23)).cell? ⟨W1.heap.size, 1, none⟩ = some (.int .i64 v) := (World.cell?_alloc_lt W3 _ ⟨W1.heap.size, 1, none⟩ z3).trans c31
  have B4 := balloc B (.cells #[.int .i64 h, .int .i64 v] 23)
  clear c20 c21 HW CI2
  go_wp2_with fail
  refine (CE.out _).mono ?_
  rintro e W5 ⟨rfl, b5⟩
  have B5 := bnext B4 b5
  cases b
  all_goals
    go_wp2_with fail
    go_ret
    exact ⟨rfl, B5⟩

set_option maxRecDepth 100000 in
theorem fnExactParseAddr_lifted (os : Os) (started : os.Started) (H : Type) (enc : TypeId × Value → H) (F : Stop.Interp) :
    ReturnsInHanded {} Tryd.checked os 3 .any ((OpenSpec.ofChange Rows.fnExactParseAddrSpec).preRow enc Tryd.prog Tryd.f3 Rows.fnExactParseAddrRow.domain false Rows.fnExactParseAddrRow.laid) (((OpenSpec.ofChange Rows.fnExactParseAddrSpec).at F).post enc Tryd.prog Tryd.f3 false true false false) := by
  refine returnsInHanded_of_row (C := Tryd.checked) (s := OpenSpec.ofChange Rows.fnExactParseAddrSpec) own started (by kernel_rfl) Tryd.func3
    (ChangeSpec.witness_shaped (enc := enc) (C := Tryd.checked) (os := os) (s := Rows.fnExactParseAddrSpec) (X := fun w _ => laidMetH Tryd.prog Rows.fnExactParseAddrRow.laid w) false (World.laidAll Tryd.prog os Rows.fnExactParseAddrRow.laid) #[.string ByteArray.empty] 8 (World.laidAll_os _ _ _)
      (World.shaped_of_ZipB (by kernel_rfl) (by kernel_rfl)) (by kernel_rfl) (by kernel_rfl) (by kernel_rfl)
      (by rw [MakeChecks.laidMetH_plain _ _ _ (by kernel_rfl)]; exact laidMet_laidAll _ (by kernel_rfl) (by kernel_rfl))) ?_
  intro W base args ds gs before hval0 hW _ _ _ hL hsh _
  have hval : ∀ (j : Nat) t v, Tryd.f3.params[j]? = some t → args[j]? = some v → Value.okWide Tryd.prog W .any base t v := hval0
  have hW' := hW
  obtain ⟨p, q, hA0, hV, rfl, hfz, hnd⟩ := hW
  have hA : DataW.TrodAll enc Tryd.prog W 0 (fun _ => true) true Tryd.f3.params.toList args.toList ds p := hA0
  rw [Tryd.params3] at hA hval
  obtain ⟨v0, vs0, d0, ds0, p0, q0, hargs, rfl, rfl, h0, r0⟩ := trodAll_cons hA
  obtain ⟨rfl, rfl, rfl⟩ := trodAll_nil r0
  obtain rfl : args = #[v0] := by cases args; simp_all
  obtain ⟨rfl, rfl⟩ := trodVars_none hV
  obtain ⟨s0, rfl, rfl, rfl, w0⟩ := Go.ChangeMaps.open_string Tryd.underlying9 (hval 0 9 v0 rfl rfl) h0
  clear hA0 hval0
  refine (fnExactParseAddr_walk s0 W w0 (envp_of hL hsh)).mono fun e W' ⟨he, bel⟩ => ?_
  subst he
  exact ⟨_, rfl, _, _, _, [], _, [], hW', trodAll_mk1 (shut_bool Tryd.underlying4 _), (trodAll_cons_mk (Go.ChangeMaps.shut_string Tryd.underlying9 w0) trodAll_mk0), rfl, bel.frame _, fun h => by cases h⟩

theorem fnExactParseAddr_row : Rows.FnExactParseAddrSaid :=
  OpenClaim.holds_of_cond 3 Tryd.f3 rfl rfl rfl rfl rfl rfl rfl ⟨rfl, rfl, rfl, rfl, rfl⟩ rfl rfl rfl rfl rfl (by kernel_rfl) Tryd.func3 (by kernel_rfl)
    (of_decide_eq_true (by kernel_rfl)) (by unfold Func.isWrapper; first | (rw [if_pos (by decide +kernel)]; kernel_rfl) | (rw [if_neg (by decide +kernel)]; exact ⟨rfl, rfl⟩))
    (fun os started H enc _ F => by rw [OpenClaim.pre_eq_preRow]; exact fnExactParseAddr_lifted os started H enc F)

theorem fnExactParseAddr_plain (f : FuncId) (fn : Func) (hf : Tryd.pinned.checked.prog.funcNamed Rows.fnExactParseAddrRow.func = some f) (hfn : Tryd.pinned.checked.prog.funcs[f]? = some fn) :
    true = Tryd.pinned.checked.prog.looks [] ∧ ∀ (j : Nat) t, fn.params[j]? = some t → Tryd.pinned.checked.prog.wantsStandIn t = false := by
  obtain rfl : f = 3 := Option.some.inj ((show Tryd.prog.funcNamed Rows.fnExactParseAddrRow.func = some 3 by kernel_rfl).symm.trans hf) |>.symm
  obtain rfl : fn = Tryd.f3 := (Option.some.inj (Tryd.func3.symm.trans hfn)).symm
  refine ⟨by kernel_rfl, fun j t ht => ?_⟩
  rw [Tryd.params3] at ht
  obtain rfl : t = 9 := by simpa using Array.mem_of_getElem? ht
  exact (show Tryd.prog.wantsStandIn 9 = false by kernel_rfl)

/-- The statement: the card. -/
theorem fnExactParseAddr_proved : Rows.FnExactParseAddrCardSaid :=
  Claim7.holds_tied_plain_at .later [] _ _ _ _ fnExactParseAddr_row (fun _ h => by cases h) (by kernel_rfl) (fun _ h => by cases h) fnExactParseAddr_row_tie rfl ⟨rfl, rfl⟩ (by kernel_rfl) rfl fnExactParseAddr_plain (by kernel_rfl)
#print axioms fnExactParseAddr_proved
end Go.Proofs.YtkcmgeoaipjhhaaDoor
