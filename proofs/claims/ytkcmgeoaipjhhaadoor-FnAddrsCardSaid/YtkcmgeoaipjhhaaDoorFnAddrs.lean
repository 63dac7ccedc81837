/- Proved: for every input that reads as data, laws.FnAddrs of the given program returns true and leaves its arguments as they read, where the listed variables of the library hold what the program's text lays in them (the card ties them). No condition of its own. -/
import Derived.Test.YtkcmgeoaipjhhaaDoorCard0
import Derived.Test.YtkcmgeoaipjhhaaDoorLaw
import Derived.Test.YtkcmgeoaipjhhaaDoorAddrD
import Derived.Test.YtkcmgeoaipjhhaaDoorAddrM
import Derived.Test.YtkcmgeoaipjhhaaDoorTextI
import Derived.Test.YtkcmgeoaipjhhaaDoorPrsI
namespace Go.Proofs.YtkcmgeoaipjhhaaDoor
open Go.ChangeShapes Go.WideShapes Go.ChangeAt Go.RowKit
set_option linter.unusedVariables false

theorem size_mk (l : List UInt8) : (⟨l.toArray⟩ : ByteArray).size = l.length := by simp [ByteArray.size]
theorem addrT_len (a b : Int) : (addrT a b).length ≤ 200 := by
  unfold addrT
  split
  · rename_i h
    have hb := (okAd_iff a b).1 h
    have k := fun u (hu : u ≤ 4294967295) => dgs_len u hu
    have k0 := k (a.toNat / 16777216) (by omega)
    have k1 := k (a.toNat / 65536 % 256) (by omega)
    have k2 := k (a.toNat / 256 % 256) (by omega)
    have k3 := k (a.toNat % 256) (by omega)
    have k4 := k b.toNat (by omega)
    simp only [hostT, List.length_append, List.length_cons]
    omega
  · simp
set_option maxRecDepth 100000 in
set_option maxHeartbeats 8000000 in
theorem fnAddrs_walk (A0 : Option Addr) (n0 c0 : Nat) (l0 : List UInt8) (w : World) (w0 : Rd w A0 n0 c0 (bv l0)) (E : EnvP w) :
    Calls Tryd.prog 4 #[.slice A0 n0 c0] w fun e w' => e = .returned (.bool true) ∧ Below w.heap.size w w' := by
  have hb0 := w0.bnd
  by_cases hn : n0 ≤ 1048576
  rotate_left
  · have C := Lib.hid (L_big_yes A0 n0 c0 w hb0 hn)
    go_enter Tryd.func4, Tryd.ntmps4
    go_wp2_with fail
    refine C.out.mono ?_
    rintro e W ⟨rfl, rfl⟩
    go_wp2_with fail
    go_ret
    exact ⟨rfl, Below.refl _ _⟩
  have C := Lib.hid (L_big_no A0 n0 c0 w hb0 hn)
  go_enter Tryd.func4, Tryd.ntmps4
  go_wp2_with fail
  refine C.out.mono ?_
  rintro e W ⟨rfl, rfl⟩
  go_wp2_with fail
  refine (S_DrawPutAddr A0 n0 c0 l0 w w0).mono ?_
  rintro e W1 ⟨A1, n1, c1, r1, a, b, rfl, ⟨o1, l1⟩, B1⟩
  have q1 := o1.rd
  have e1 : r1.length = n1 := by have := q1.len; rwa [bv_len] at this
  have b1 := q1.bnd
  obtain ⟨W2, hW2⟩ : ∃ V, V = W1.alloc (.cells #[.int .i64 a, .int .i64 b] 23) := ⟨_, rfl⟩
  have b2 : Below W1.heap.size W1 W2 := by rw [hW2]; exact balloc (Below.refl _ _) _
  have X2 : Q2 W2 W1.heap.size (.int .i64 a) (.int .i64 b) := by rw [hW2]; exact Q2.new _ _ _ _
  have B2 := bnext B1 b2
  have q1 := q1.below b2 (Nat.le_refl _)
  have HW := Lib.hid hW2
  have CP := Lib.hid (I_PutAddr A1 n1 c1 r1 a b W2 q1 (by omega))
  clear hW2 C o1
  have hle := putAd_len r1 a b
  cases hok : okAd a b with
  | false =>
    have hp : putAd r1 a b = r1 := by rw [putAd, if_neg (by simp [hok])]
    have ht : addrT a b = [] := by rw [addrT, if_neg (by simp [hok])]
    rw [hp] at CP
    have CT := Lib.hid fun W h => I_AddrText a b W h
    rw [ht] at CT
    have CI := Lib.hid fun W => (I_AddrOk a b W).mono fun e w' h => (⟨by rw [h.1, hok], h.2⟩ : e = .returned (.bool false) ∧ Below W.heap.size W w')
    have CS := Lib.hid fun W => (S_AddrOk a b W).mono fun e w' h => (⟨by rw [h.1, hok], h.2⟩ : e = .returned (.bool false) ∧ Below W.heap.size W w')
    clear hp ht hok hle
    go_wp2_with fail
    rw [← HW.out]
    refine CP.out.mono ?_
    rintro e W3 ⟨A3, n3, c3, rfl, o3, b3⟩
    have q3 := o3.rd
    have B3 := bnext B2 b3
    have X3 := X2.below b3 X2.lt
    have q1 := q1.below b3 (Nat.le_refl _)
    obtain ⟨p0, p1, p2, p3⟩ := id X3
    have CT3 := Lib.hid (CT.out W3 (E.below B3).tab)
    clear CP CT o3 X2 HW
    go_wp2_with fail
    refine CT3.out.mono ?_
    rintro e W4 ⟨rfl, b4⟩
    have B4 := bnext B3 b4
    have X4 := X3.below b4 X3.lt
    have q1 := q1.below b4 (Nat.le_refl _)
    have q3 := q3.below b4 (Nat.le_refl _)
    have xl := X4.lt
    clear p0 p1 p2 p3 X3 CT3
    obtain ⟨p0, p1, p2, p3⟩ := id X4
    go_wp2_with fail
    go_region_held3 (fun w' => w'.cell? ⟨W1.heap.size, 0, none⟩ = some (.int .i64 a) ∧ w'.cell? ⟨W1.heap.size, 1, none⟩ = some (.int .i64 b))
      (first | exact ⟨p0, p1⟩ | exact ⟨r0, r1⟩ | exact ⟨s0, s1⟩)
      (first
        | (go_at_call 14; (with_reducible refine (CI.out _).mono ?_); rintro e W5 ⟨rfl, b5⟩; have r0 := (b5.cell (p := ⟨W1.heap.size, 0, none⟩) xl).trans p0; have r1 := (b5.cell (p := ⟨W1.heap.size, 1, none⟩) xl).trans p1; have x5 := Nat.lt_of_lt_of_le xl b5.size)
        | (go_at_call 15; (with_reducible refine (CS.out _).mono ?_); rintro e W6 ⟨rfl, b6⟩; have s0 := (b6.cell (p := ⟨W1.heap.size, 0, none⟩) x5).trans r0; have s1 := (b6.cell (p := ⟨W1.heap.size, 1, none⟩) x5).trans r1; have x6 := Nat.lt_of_lt_of_le x5 b6.size))
    have b5' : Below W4.heap.size W4 W5 := (bdrew (Below.refl _ _)).trans b5
    have B6 := bnext (bnext B4 b5') b6
    have q1 := (q1.below b5' (Nat.le_refl _)).below b6 (Nat.le_refl _)
    have q3 := (q3.below b5' (Nat.le_refl _)).below b6 (Nat.le_refl _)
    go_wp2_with fail
    refine (CI.out _).mono ?_
    rintro e W7 ⟨rfl, b7⟩
    have B7 := bnext B6 b7
    have q1 := q1.below b7 (Nat.le_refl _)
    have q3 := q3.below b7 (Nat.le_refl _)
    have u0 := (b7.cell (p := ⟨W1.heap.size, 0, none⟩) x6).trans s0
    have u1 := (b7.cell (p := ⟨W1.heap.size, 1, none⟩) x6).trans s1
    have x7 := Nat.lt_of_lt_of_le x6 b7.size
    clear p0 p1 p2 p3 r0 r1 s0 s1
    clear u0 u1
    go_wp2_with fail
    refine (L_same_yes _ _ _ _ _ _ _ _ _ q3 q1 rfl).mono ?_
    rintro e W8 ⟨rfl, rfl⟩
    go_wp2_with fail
    go_ret
    exact ⟨rfl, B7⟩
  | true =>
    have hg := putAd_get r1 a b hok
    have h6 := putAd_len6 r1 a b hok
    rw [e1] at hg h6
    have hc := gaB_cut ((putAd r1 a b).take (n1 + 5)) n1 (by rw [List.length_take]; omega)
    have hr := implR_text hok
    have CT := Lib.hid fun W h => I_AddrText a b W h
    have CI := Lib.hid fun W => (I_AddrOk a b W).mono fun e w' h => (⟨by rw [h.1, hok], h.2⟩ : e = .returned (.bool true) ∧ Below W.heap.size W w')
    have CS := Lib.hid fun W => (S_AddrOk a b W).mono fun e w' h => (⟨by rw [h.1, hok], h.2⟩ : e = .returned (.bool true) ∧ Below W.heap.size W w')
    have CR := Lib.hid fun W h => I_ParseAddr ⟨(addrT a b).toArray⟩ W (by rw [size_mk]; have := addrT_len a b; omega) h
    rw [show (⟨(addrT a b).toArray⟩ : ByteArray).data.toList = addrT a b from rfl, hr] at CR
    have HG := Lib.hid hg
    have HC := Lib.hid hc
    have HN6 := Lib.hid h6
    clear hok hle hg hc h6 hr
    go_wp2_with fail
    rw [← HW.out]
    refine CP.out.mono ?_
    rintro e W3 ⟨A3, n3, c3, rfl, o3, b3⟩
    have q3 := o3.rd
    have hn3 : n3 = n1 + 6 := by have h := q3.len; rw [bv_len, HN6.out] at h; exact h.symm
    subst hn3
    have B3 := bnext B2 b3
    have X3 := X2.below b3 X2.lt
    have q1 := q1.below b3 (Nat.le_refl _)
    obtain ⟨p0, p1, p2, p3⟩ := id X3
    have CT3 := Lib.hid (CT.out W3 (E.below B3).tab)
    have b3b := q3.bnd
    clear CP CT o3 X2 HW
    go_wp2_with fail
    refine CT3.out.mono ?_
    rintro e W4 ⟨rfl, b4⟩
    have B4 := bnext B3 b4
    have X4 := X3.below b4 X3.lt
    have q1 := q1.below b4 (Nat.le_refl _)
    have q3 := q3.below b4 (Nat.le_refl _)
    have xl := X4.lt
    clear p0 p1 p2 p3 X3 CT3
    obtain ⟨p0, p1, p2, p3⟩ := id X4
    go_wp2_with fail
    go_region_held3 (fun w' => w'.cell? ⟨W1.heap.size, 0, none⟩ = some (.int .i64 a) ∧ w'.cell? ⟨W1.heap.size, 1, none⟩ = some (.int .i64 b))
      (first | exact ⟨p0, p1⟩ | exact ⟨r0, r1⟩ | exact ⟨s0, s1⟩)
      (first
        | (go_at_call 14; (with_reducible refine (CI.out _).mono ?_); rintro e W5 ⟨rfl, b5⟩; have r0 := (b5.cell (p := ⟨W1.heap.size, 0, none⟩) xl).trans p0; have r1 := (b5.cell (p := ⟨W1.heap.size, 1, none⟩) xl).trans p1; have x5 := Nat.lt_of_lt_of_le xl b5.size)
        | (go_at_call 15; (with_reducible refine (CS.out _).mono ?_); rintro e W6 ⟨rfl, b6⟩; have s0 := (b6.cell (p := ⟨W1.heap.size, 0, none⟩) x5).trans r0; have s1 := (b6.cell (p := ⟨W1.heap.size, 1, none⟩) x5).trans r1; have x6 := Nat.lt_of_lt_of_le x5 b6.size))
    have b5' : Below W4.heap.size W4 W5 := (bdrew (Below.refl _ _)).trans b5
    have B6 := bnext (bnext B4 b5') b6
    have q1 := (q1.below b5' (Nat.le_refl _)).below b6 (Nat.le_refl _)
    have q3 := (q3.below b5' (Nat.le_refl _)).below b6 (Nat.le_refl _)
    go_wp2_with fail
    refine (CI.out _).mono ?_
    rintro e W7 ⟨rfl, b7⟩
    have B7 := bnext B6 b7
    have q1 := q1.below b7 (Nat.le_refl _)
    have q3 := q3.below b7 (Nat.le_refl _)
    have u0 := (b7.cell (p := ⟨W1.heap.size, 0, none⟩) x6).trans s0
    have u1 := (b7.cell (p := ⟨W1.heap.size, 1, none⟩) x6).trans s1
    have x7 := Nat.lt_of_lt_of_le x6 b7.size
    clear p0 p1 p2 p3 r0 r1 s0 s1
    have hG1 := I_GetAddr A3 (n1 + 6) c3 (putAd r1 a b) (n1 : Int) W7 q3 (by omega)
    rw [HG.out.1, HG.out.2.1, HG.out.2.2.1, HG.out.2.2.2] at hG1
    have HG1 := Lib.hid hG1
    clear hG1
    go_wp2_with fail
    refine HG1.out.mono ?_
    rintro e W8 ⟨rfl, b8⟩
    have B8 := bnext B7 b8
    have q3 := q3.below b8 (Nat.le_refl _)
    have v0 := (b8.cell (p := ⟨W1.heap.size, 0, none⟩) x7).trans u0
    have v1 := (b8.cell (p := ⟨W1.heap.size, 1, none⟩) x7).trans u1
    have x8 := Nat.lt_of_lt_of_le x7 b8.size
    obtain ⟨W9, hW9⟩ : ∃ V, V = W8.alloc (.cells #[.int .i64 a, .int .i64 b] 23) := ⟨_, rfl⟩
    have b9 : Below W8.heap.size W8 W9 := by rw [hW9]; exact balloc (Below.refl _ _) _
    have Y9 : Q2 W9 W8.heap.size (.int .i64 a) (.int .i64 b) := by rw [hW9]; exact Q2.new _ _ _ _
    have B9 := bnext B8 b9
    have q3 := q3.below b9 (Nat.le_refl _)
    have v0 := (b9.cell (p := ⟨W1.heap.size, 0, none⟩) x8).trans v0
    have v1 := (b9.cell (p := ⟨W1.heap.size, 1, none⟩) x8).trans v1
    have x9 := Nat.lt_of_lt_of_le x8 b9.size
    have HW9 := Lib.hid hW9
    have hD := q3.pre (m := n1 + 5) (by omega)
    rw [bv_pre] at hD
    have hG2 := I_GetAddr A3 (n1 + 5) c3 ((putAd r1 a b).take (n1 + 5)) (n1 : Int) W9 hD (by omega)
    have hz : gaH ((putAd r1 a b).take (n1 + 5)) (n1 : Int) = 0 ∧ gaP ((putAd r1 a b).take (n1 + 5)) (n1 : Int) = 0 ∧ gaE ((putAd r1 a b).take (n1 + 5)) (n1 : Int) = 0 := by
      refine ⟨?_, ?_, ?_⟩
      · rw [gaH, if_neg (by rw [HC.out]; simp)]
      · rw [gaP, if_neg (by rw [HC.out]; simp)]
      · rw [gaE, if_neg (by rw [HC.out]; simp)]
    rw [HC.out, hz.1, hz.2.1, hz.2.2] at hG2
    have HG2 := Lib.hid hG2
    have t1 : ((n1 : Int) + 5).toNat = n1 + 5 := by omega
    have t2 : (0 : Int) ≤ (n1 : Int) + 5 := by omega
    have t3 : (n1 : Int) + 5 ≤ (c3 : Int) := by omega
    clear hW9 u0 u1 HG1 hG2 hz hD q1
    go_wp2_with fail
    rw [← HW9.out]
    refine HG2.out.mono ?_
    rintro e W10 ⟨rfl, b10⟩
    have BA := bnext B9 b10
    have Y10 := Y9.below b10 Y9.lt
    have v0 := (b10.cell (p := ⟨W1.heap.size, 0, none⟩) x9).trans v0
    have v1 := (b10.cell (p := ⟨W1.heap.size, 1, none⟩) x9).trans v1
    have x10 := Nat.lt_of_lt_of_le x9 b10.size
    obtain ⟨W11, hW11⟩ : ∃ V, V = W10.alloc (.cells #[.int .i64 0, .int .i64 0] 23) := ⟨_, rfl⟩
    have b11 : Below W10.heap.size W10 W11 := by rw [hW11]; exact balloc (Below.refl _ _) _
    have BB := bnext BA b11
    have Y11 := Y10.below b11 Y10.lt
    have v0 := (b11.cell (p := ⟨W1.heap.size, 0, none⟩) x10).trans v0
    have v1 := (b11.cell (p := ⟨W1.heap.size, 1, none⟩) x10).trans v1
    have x11 := Nat.lt_of_lt_of_le x10 b11.size
    have HW11 := Lib.hid hW11
    have hR := CR.out W11 (E.below BB)
    simp only [prsV] at hR
    have HR := Lib.hid hR
    clear hW11 hR HG2 HW9 q3 t1 t2 t3 Y9 Y10
    go_wp2_with fail
    rw [← HW11.out]
    refine HR.out.mono ?_
    rintro e W12 ⟨rfl, b12⟩
    have BC := bnext BB b12
    have Y12 := Y11.below b12 Y11.lt
    have v0 := (b12.cell (p := ⟨W1.heap.size, 0, none⟩) x11).trans v0
    have v1 := (b12.cell (p := ⟨W1.heap.size, 1, none⟩) x11).trans v1
    have x12 := Nat.lt_of_lt_of_le x11 b12.size
    have y12 := Y12.lt
    have hk : ∀ g o, g < W12.heap.size → (W12.alloc (.cells #[.int .i64 a, .int .i64 b] 23)).cell? ⟨g, o, none⟩ = W12.cell? ⟨g, o, none⟩ := fun g o h => World.cell?_alloc_lt W12 _ ⟨g, o, none⟩ h
    have z0 := (hk W1.heap.size 0 x12).trans v0
    have z1 := (hk W1.heap.size 1 x12).trans v1
    have z2 := (hk W8.heap.size 0 y12).trans Y12.c0
    have z3 := (hk W8.heap.size 1 y12).trans Y12.c1
    have BD := balloc BC (.cells #[.int .i64 a, .int .i64 b] 23)
    clear hk v0 v1 Y11 Y12
    go_wp2_with fail
    go_ret
    exact ⟨rfl, BD⟩

set_option maxRecDepth 100000 in
theorem fnAddrs_lifted (os : Os) (started : os.Started) (H : Type) (enc : TypeId × Value → H) (F : Stop.Interp) :
    ReturnsInHanded {} Tryd.checked os 4 .any ((OpenSpec.ofChange Rows.fnAddrsSpec).preRow enc Tryd.prog Tryd.f4 Rows.fnAddrsRow.domain false Rows.fnAddrsRow.laid) (((OpenSpec.ofChange Rows.fnAddrsSpec).at F).post enc Tryd.prog Tryd.f4 false true false false) := by
  refine returnsInHanded_of_row (C := Tryd.checked) (s := OpenSpec.ofChange Rows.fnAddrsSpec) own started (by kernel_rfl) Tryd.func4
    (ChangeSpec.witness_shaped (enc := enc) (C := Tryd.checked) (os := os) (s := Rows.fnAddrsSpec) (X := fun w _ => laidMetH Tryd.prog Rows.fnAddrsRow.laid w) false (World.laidAll Tryd.prog os Rows.fnAddrsRow.laid) #[.slice none 0 0] 8 (World.laidAll_os _ _ _)
      (World.shaped_of_ZipB (by kernel_rfl) (by kernel_rfl)) (by kernel_rfl) (by kernel_rfl) (by kernel_rfl)
      (by rw [MakeChecks.laidMetH_plain _ _ _ (by kernel_rfl)]; exact laidMet_laidAll _ (by kernel_rfl) (by kernel_rfl))) ?_
  intro W base args ds gs before hval0 hW _ _ _ hL hsh _
  have hval : ∀ (j : Nat) t v, Tryd.f4.params[j]? = some t → args[j]? = some v → Value.okWide Tryd.prog W .any base t v := hval0
  have hW' := hW
  obtain ⟨p, q, hA0, hV, rfl, hfz, hnd⟩ := hW
  have hA : DataW.TrodAll enc Tryd.prog W 0 (fun _ => true) true Tryd.f4.params.toList args.toList ds p := hA0
  rw [Tryd.params4] at hA hval
  obtain ⟨v0, vs0, d0, ds0, p0, q0, hargs, rfl, rfl, h0, r0⟩ := trodAll_cons hA
  obtain ⟨rfl, rfl, rfl⟩ := trodAll_nil r0
  obtain rfl : args = #[v0] := by cases args; simp_all
  obtain ⟨rfl, rfl⟩ := trodVars_none hV
  have k0 := h0
  have lt0 : ∀ x ∈ p0, x.block < W.heap.size := by obtain ⟨m, hm⟩ := k0; exact DataW.trod_lt m _ _ _ hm
  obtain ⟨A0, n0, c0, rfl⟩ := okWide_slice Tryd.underlying28 (hval 0 28 v0 rfl rfl)
  obtain ⟨l0, w0⟩ : ∃ l, Rd W A0 n0 c0 (bv l) := by
    obtain ⟨fuel, hf⟩ := h0
    exact open_bytes Tryd.underlying28 Tryd.underlying5 (by kernel_rfl) (by simpa [Value.cells] using hf)
  clear hA0 hval0
  refine (fnAddrs_walk A0 n0 c0 l0 W w0 (envp_of hL hsh)).mono fun e W' ⟨he, bel⟩ => ?_
  subst he
  exact ⟨_, rfl, _, _, _, [], _, [], hW', trodAll_mk1 (shut_bool Tryd.underlying4 _), (trodAll_cons_mk (Below.trod laidOut (by kernel_rfl) (of_decide_eq_true (by kernel_rfl)) k0 bel lt0) trodAll_mk0), rfl, bel.frame _, fun h => by cases h⟩

theorem fnAddrs_row : Rows.FnAddrsSaid :=
  OpenClaim.holds_of_cond 4 Tryd.f4 rfl rfl rfl rfl rfl rfl rfl ⟨rfl, rfl, rfl, rfl, rfl⟩ rfl rfl rfl rfl rfl (by kernel_rfl) Tryd.func4 (by kernel_rfl)
    (of_decide_eq_true (by kernel_rfl)) (by unfold Func.isWrapper; first | (rw [if_pos (by decide +kernel)]; kernel_rfl) | (rw [if_neg (by decide +kernel)]; exact ⟨rfl, rfl⟩))
    (fun os started H enc _ F => by rw [OpenClaim.pre_eq_preRow]; exact fnAddrs_lifted os started H enc F)

theorem fnAddrs_plain (f : FuncId) (fn : Func) (hf : Tryd.pinned.checked.prog.funcNamed Rows.fnAddrsRow.func = some f) (hfn : Tryd.pinned.checked.prog.funcs[f]? = some fn) :
    true = Tryd.pinned.checked.prog.looks [] ∧ ∀ (j : Nat) t, fn.params[j]? = some t → Tryd.pinned.checked.prog.wantsStandIn t = false := by
  obtain rfl : f = 4 := Option.some.inj ((show Tryd.prog.funcNamed Rows.fnAddrsRow.func = some 4 by kernel_rfl).symm.trans hf) |>.symm
  obtain rfl : fn = Tryd.f4 := (Option.some.inj (Tryd.func4.symm.trans hfn)).symm
  refine ⟨by kernel_rfl, fun j t ht => ?_⟩
  rw [Tryd.params4] at ht
  obtain rfl : t = 28 := by simpa using Array.mem_of_getElem? ht
  exact (show Tryd.prog.wantsStandIn 28 = false by kernel_rfl)

/-- The statement: the card. -/
theorem fnAddrs_proved : Rows.FnAddrsCardSaid :=
  Claim7.holds_tied_plain_at .later [] _ _ _ _ fnAddrs_row (fun _ h => by cases h) (by kernel_rfl) (fun _ h => by cases h) fnAddrs_row_tie rfl ⟨rfl, rfl⟩ (by kernel_rfl) rfl fnAddrs_plain (by kernel_rfl)
#print axioms fnAddrs_proved
end Go.Proofs.YtkcmgeoaipjhhaaDoor
