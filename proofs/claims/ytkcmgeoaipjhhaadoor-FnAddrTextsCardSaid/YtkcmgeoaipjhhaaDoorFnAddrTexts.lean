/- Proved: for every input that reads as data, laws.FnAddrTexts of the given program returns true and leaves its arguments as they read, where the listed variables of the library hold what the program's text lays in them (the card ties them). No condition of its own. -/
import Derived.Test.YtkcmgeoaipjhhaaDoorCard0
import Derived.Test.YtkcmgeoaipjhhaaDoorLaw
import Derived.Test.YtkcmgeoaipjhhaaDoorAddrD
import Derived.Test.YtkcmgeoaipjhhaaDoorAddrP
import Derived.Test.YtkcmgeoaipjhhaaDoorTextI
import Derived.Test.YtkcmgeoaipjhhaaDoorPrsI
import Derived.Test.YtkcmgeoaipjhhaaDoorPrsS
namespace Go.Proofs.YtkcmgeoaipjhhaaDoor
open Go.ChangeShapes Go.WideShapes Go.ChangeAt Go.RowKit
set_option linter.unusedVariables false

theorem near_in (i : Int) (h : 0 ≤ i ∧ i ≤ 255) : nearH i = 167772160 + i ∧ nearP i = 7000 + i ∧ okAd (167772160 + i) (7000 + i) = true := by
  refine ⟨by rw [nearH, if_pos h], by rw [nearP, if_pos h], (okAd_iff _ _).2 ⟨by omega, by omega⟩⟩
set_option maxRecDepth 100000 in
set_option maxHeartbeats 8000000 in
theorem fnAddrTexts_walk (A0 : Option Addr) (n0 c0 : Nat) (l0 : List UInt8) (w : World) (w0 : Rd w A0 n0 c0 (bv l0)) (E : EnvP w) :
    Calls Tryd.prog 5 #[.slice A0 n0 c0] w fun e w' => e = .returned (.bool true) ∧ Below w.heap.size w w' := by
  have hb0 := w0.bnd
  by_cases hn : n0 ≤ 1048576
  rotate_left
  · have C := Lib.hid (L_big_yes A0 n0 c0 w hb0 hn)
    go_enter Tryd.func5, Tryd.ntmps5
    go_wp2_with fail
    refine C.out.mono ?_
    rintro e W ⟨rfl, rfl⟩
    go_wp2_with fail
    go_ret
    exact ⟨rfl, Below.refl _ _⟩
  have C := Lib.hid (L_big_no A0 n0 c0 w hb0 hn)
  go_enter Tryd.func5, Tryd.ntmps5
  go_wp2_with fail
  refine C.out.mono ?_
  rintro e W ⟨rfl, rfl⟩
  go_wp2_with fail
  refine (S_DrawParseAddr A0 n0 c0 l0 w w0).mono ?_
  rintro e W1 ⟨⟨s, rfl, hs⟩, B1⟩
  have CI := Lib.hid (I_ParseAddr s W1 (by omega) (E.below B1))
  have CS := Lib.hid fun W => S_ParseAddr s W (by omega)
  rw [← implR_specR] at CS
  have HC := Lib.hid (implR_cases s.data.toList)
  obtain ⟨r, hr⟩ : ∃ r, r = implR s.data.toList := ⟨_, rfl⟩
  rw [← hr] at CI CS HC
  clear hr C
  obtain ⟨h, v, b⟩ := r
  simp only [prsV, prsS] at CI CS
  go_wp2_with fail
  refine CI.out.mono ?_
  rintro e W2 ⟨rfl, b2⟩
  have B2 := bnext B1 b2
  obtain ⟨W3, hW3⟩ : ∃ V, V = W2.alloc (.cells #[.int .i64 h, .int .i64 v] 23) := ⟨_, rfl⟩
  have b3 : Below W2.heap.size W2 W3 := by rw [hW3]; exact balloc (Below.refl _ _) _
  have X3 : Q2 W3 W2.heap.size (.int .i64 h) (.int .i64 v) := by rw [hW3]; exact Q2.new _ _ _ _
  have B3 := bnext B2 b3
  have HW3 := Lib.hid hW3
  clear hW3 CI
  go_wp2_with fail
  rw [← HW3.out]
  refine (CS.out _).mono ?_
  rintro e W4 ⟨rfl, b4⟩
  have B4 := bnext B3 b4
  have X4 := X3.below b4 X3.lt
  obtain ⟨W5, hW5⟩ : ∃ V, V = W4.alloc (.cells #[.int .i64 h, .int .i64 v] 23) := ⟨_, rfl⟩
  have b5 : Below W4.heap.size W4 W5 := by rw [hW5]; exact balloc (Below.refl _ _) _
  have Y5 : Q2 W5 W4.heap.size (.int .i64 h) (.int .i64 v) := by rw [hW5]; exact Q2.new _ _ _ _
  have X5 := X4.below b5 X4.lt
  have B5 := bnext B4 b5
  have HW5 := Lib.hid hW5
  have w5 := w0.below B5 (Nat.le_refl _)
  have CA2 := Lib.hid (L_at A0 n0 c0 l0 2 W5 w5 (by omega) hn)
  have CA3 := Lib.hid (L_at A0 n0 c0 l0 3 W5 w5 (by omega) hn)
  clear hW5 HW3 CS X3 X4 w5
  go_wp2_with fail
  rw [← HW5.out]
  refine CA2.out.mono ?_
  rintro e W ⟨⟨i, rfl, hi0, hi1⟩, rfl⟩
  go_wp2_with fail
  refine CA3.out.mono ?_
  rintro e W ⟨⟨k, rfl, hk0, hk1⟩, rfl⟩
  have hni := near_in i ⟨hi0, by omega⟩
  have hnk := near_in k ⟨hk0, by omega⟩
  have N1 := fun W => I_Near i W
  have N2 := fun W => I_Near k W
  rw [hni.1, hni.2.1] at N1
  rw [hnk.1, hnk.2.1] at N2
  have NO := fun W => I_AddrOk (167772160 + i) (7000 + i) W
  rw [hni.2.2] at NO
  have N1 := Lib.hid N1
  have N2 := Lib.hid N2
  have NO := Lib.hid NO
  clear hni hnk
  have HE : b = true → addrT h v = s.data.toList := fun hb => by
    rcases HC.out with h1 | ⟨a', b', h1, h2, h3⟩
    · injection h1 with h1 h2; injection h2 with h2 h4; rw [hb] at h4; cases h4
    · injection h3 with h3 h4; injection h4 with h4 h5; rw [h3, h4]; exact h2
  obtain ⟨x0, x1, x2, x3⟩ := id X5
  obtain ⟨y0, y1, y2, y3⟩ := id Y5
  have xl := X5.lt
  have CT := Lib.hid (I_AddrText h v W5 (E.below B5).tab)
  clear CA2 CA3 HC HW5
  by_cases hik : i = k
  · subst hik
    cases b with
    | true =>
      have es : (⟨(addrT h v).toArray⟩ : ByteArray) = s := by rw [HE rfl]
      clear HE
      go_wp2_with fail
      refine CT.out.mono ?_
      rintro e W6 ⟨rfl, b6⟩
      have B6 := bnext B5 b6
      clear x0 x1 y0 y1
      go_wp2_with fail
      refine (N1.out _).mono ?_
      rintro e U1 ⟨rfl, c1⟩
      have D1 := bnext B6 c1
      go_wp2_with fail
      refine (N2.out _).mono ?_
      rintro e U2 ⟨rfl, c2⟩
      have D2 := bnext D1 c2
      go_wp2_with fail
      refine (N1.out _).mono ?_
      rintro e U3 ⟨rfl, c3⟩
      have D3 := bnext D2 c3
      go_wp2_with fail
      refine (NO.out _).mono ?_
      rintro e U4 ⟨rfl, c4⟩
      have D4 := bnext D3 c4
      go_wp2_with fail
      go_ret
      exact ⟨rfl, D4⟩
    | false =>
      clear HE CT
      go_wp2_with fail
      refine (N1.out _).mono ?_
      rintro e U1 ⟨rfl, c1⟩
      have D1 := bnext B5 c1
      go_wp2_with fail
      refine (N2.out _).mono ?_
      rintro e U2 ⟨rfl, c2⟩
      have D2 := bnext D1 c2
      go_wp2_with fail
      refine (N1.out _).mono ?_
      rintro e U3 ⟨rfl, c3⟩
      have D3 := bnext D2 c3
      go_wp2_with fail
      refine (NO.out _).mono ?_
      rintro e U4 ⟨rfl, c4⟩
      have D4 := bnext D3 c4
      go_wp2_with fail
      go_ret
      exact ⟨rfl, D4⟩
  · have ik : (i == k) = false := by rw [beq_eq_false_iff_ne]; exact hik
    cases b with
    | true =>
      have es : (⟨(addrT h v).toArray⟩ : ByteArray) = s := by rw [HE rfl]
      clear HE
      go_wp2_with fail
      refine CT.out.mono ?_
      rintro e W6 ⟨rfl, b6⟩
      have B6 := bnext B5 b6
      clear x0 x1 y0 y1
      go_wp2_with fail
      refine (N1.out _).mono ?_
      rintro e U1 ⟨rfl, c1⟩
      have D1 := bnext B6 c1
      go_wp2_with fail
      refine (N2.out _).mono ?_
      rintro e U2 ⟨rfl, c2⟩
      have D2 := bnext D1 c2
      go_wp2_with fail
      refine (N1.out _).mono ?_
      rintro e U3 ⟨rfl, c3⟩
      have D3 := bnext D2 c3
      go_wp2_with fail
      refine (NO.out _).mono ?_
      rintro e U4 ⟨rfl, c4⟩
      have D4 := bnext D3 c4
      go_wp2_with fail
      go_ret
      exact ⟨rfl, D4⟩
    | false =>
      clear HE CT
      go_wp2_with fail
      refine (N1.out _).mono ?_
      rintro e U1 ⟨rfl, c1⟩
      have D1 := bnext B5 c1
      go_wp2_with fail
      refine (N2.out _).mono ?_
      rintro e U2 ⟨rfl, c2⟩
      have D2 := bnext D1 c2
      go_wp2_with fail
      refine (N1.out _).mono ?_
      rintro e U3 ⟨rfl, c3⟩
      have D3 := bnext D2 c3
      go_wp2_with fail
      refine (NO.out _).mono ?_
      rintro e U4 ⟨rfl, c4⟩
      have D4 := bnext D3 c4
      go_wp2_with fail
      go_ret
      exact ⟨rfl, D4⟩

set_option maxRecDepth 100000 in
theorem fnAddrTexts_lifted (os : Os) (started : os.Started) (H : Type) (enc : TypeId × Value → H) (F : Stop.Interp) :
    ReturnsInHanded {} Tryd.checked os 5 .any ((OpenSpec.ofChange Rows.fnAddrTextsSpec).preRow enc Tryd.prog Tryd.f5 Rows.fnAddrTextsRow.domain false Rows.fnAddrTextsRow.laid) (((OpenSpec.ofChange Rows.fnAddrTextsSpec).at F).post enc Tryd.prog Tryd.f5 false true false false) := by
  refine returnsInHanded_of_row (C := Tryd.checked) (s := OpenSpec.ofChange Rows.fnAddrTextsSpec) own started (by kernel_rfl) Tryd.func5
    (ChangeSpec.witness_shaped (enc := enc) (C := Tryd.checked) (os := os) (s := Rows.fnAddrTextsSpec) (X := fun w _ => laidMetH Tryd.prog Rows.fnAddrTextsRow.laid w) false (World.laidAll Tryd.prog os Rows.fnAddrTextsRow.laid) #[.slice none 0 0] 8 (World.laidAll_os _ _ _)
      (World.shaped_of_ZipB (by kernel_rfl) (by kernel_rfl)) (by kernel_rfl) (by kernel_rfl) (by kernel_rfl)
      (by rw [MakeChecks.laidMetH_plain _ _ _ (by kernel_rfl)]; exact laidMet_laidAll _ (by kernel_rfl) (by kernel_rfl))) ?_
  intro W base args ds gs before hval0 hW _ _ _ hL hsh _
  have hval : ∀ (j : Nat) t v, Tryd.f5.params[j]? = some t → args[j]? = some v → Value.okWide Tryd.prog W .any base t v := hval0
  have hW' := hW
  obtain ⟨p, q, hA0, hV, rfl, hfz, hnd⟩ := hW
  have hA : DataW.TrodAll enc Tryd.prog W 0 (fun _ => true) true Tryd.f5.params.toList args.toList ds p := hA0
  rw [Tryd.params5] at hA hval
  obtain ⟨v0, vs0, d0, ds0, p0, q0, hargs, rfl, rfl, h0, r0⟩ := trodAll_cons hA
  obtain ⟨rfl, rfl, rfl⟩ := trodAll_nil r0
  obtain rfl : args = #[v0] := by cases args; simp_all
  obtain ⟨rfl, rfl⟩ := trodVars_none hV
  have k0 := h0
  have lt0 : ∀ x ∈ p0, x.block < W.heap.size := by obtain ⟨m, hm⟩ := k0; exact DataW.trod_lt m _ _ _ hm
  obtain ⟨A0, n0, c0, rfl⟩ := okWide_slice Tryd.underlying28 (hval 0 28 v0 rfl rfl)
  obtain ⟨l0, w0⟩ : ∃ l, Rd W A0 n0 c0 (bv l) := by
    obtain ⟨fuel, hf⟩ := h0
    exact open_bytes Tryd.underlying28 Tryd.underlying5 (by kernel_rfl) (by simpa [Value.cells] using hf)
  clear hA0 hval0
  refine (fnAddrTexts_walk A0 n0 c0 l0 W w0 (envp_of hL hsh)).mono fun e W' ⟨he, bel⟩ => ?_
  subst he
  exact ⟨_, rfl, _, _, _, [], _, [], hW', trodAll_mk1 (shut_bool Tryd.underlying4 _), (trodAll_cons_mk (Below.trod laidOut (by kernel_rfl) (of_decide_eq_true (by kernel_rfl)) k0 bel lt0) trodAll_mk0), rfl, bel.frame _, fun h => by cases h⟩

theorem fnAddrTexts_row : Rows.FnAddrTextsSaid :=
  OpenClaim.holds_of_cond 5 Tryd.f5 rfl rfl rfl rfl rfl rfl rfl ⟨rfl, rfl, rfl, rfl, rfl⟩ rfl rfl rfl rfl rfl (by kernel_rfl) Tryd.func5 (by kernel_rfl)
    (of_decide_eq_true (by kernel_rfl)) (by unfold Func.isWrapper; first | (rw [if_pos (by decide +kernel)]; kernel_rfl) | (rw [if_neg (by decide +kernel)]; exact ⟨rfl, rfl⟩))
    (fun os started H enc _ F => by rw [OpenClaim.pre_eq_preRow]; exact fnAddrTexts_lifted os started H enc F)

theorem fnAddrTexts_plain (f : FuncId) (fn : Func) (hf : Tryd.pinned.checked.prog.funcNamed Rows.fnAddrTextsRow.func = some f) (hfn : Tryd.pinned.checked.prog.funcs[f]? = some fn) :
    true = Tryd.pinned.checked.prog.looks [] ∧ ∀ (j : Nat) t, fn.params[j]? = some t → Tryd.pinned.checked.prog.wantsStandIn t = false := by
  obtain rfl : f = 5 := Option.some.inj ((show Tryd.prog.funcNamed Rows.fnAddrTextsRow.func = some 5 by kernel_rfl).symm.trans hf) |>.symm
  obtain rfl : fn = Tryd.f5 := (Option.some.inj (Tryd.func5.symm.trans hfn)).symm
  refine ⟨by kernel_rfl, fun j t ht => ?_⟩
  rw [Tryd.params5] at ht
  obtain rfl : t = 28 := by simpa using Array.mem_of_getElem? ht
  exact (show Tryd.prog.wantsStandIn 28 = false by kernel_rfl)

/-- The statement: the card. -/
theorem fnAddrTexts_proved : Rows.FnAddrTextsCardSaid :=
  Claim7.holds_tied_plain_at .later [] _ _ _ _ fnAddrTexts_row (fun _ h => by cases h) (by kernel_rfl) (fun _ h => by cases h) fnAddrTexts_row_tie rfl ⟨rfl, rfl⟩ (by kernel_rfl) rfl fnAddrTexts_plain (by kernel_rfl)
#print axioms fnAddrTexts_proved
end Go.Proofs.YtkcmgeoaipjhhaaDoor
