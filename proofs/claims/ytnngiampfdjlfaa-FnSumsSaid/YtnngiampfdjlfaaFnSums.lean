/- Proved: for every input that reads as data, laws.FnSums of the given program returns true and leaves its arguments as they read. No condition of its own. -/
import Derived.Test.YtnngiampfdjlfaaBase
import Derived.Test.YtnngiampfdjlfaaLaw
import Derived.Test.YtnngiampfdjlfaaHashE
import Derived.Test.YtnngiampfdjlfaaSumM
import Derived.Test.YtnngiampfdjlfaaShaS
namespace Go.Proofs.Ytnngiampfdjlfaa
open Go.ChangeShapes Go.WideShapes Go.ChangeAt Go.RowKit
set_option linter.unusedVariables false

theorem sums_len {n0 : Nat} {r : List UInt8} {b : Nat} (h : r.length = n0) (k : r.length ≤ b) : n0 ≤ b := by omega
set_option maxRecDepth 100000 in
set_option maxHeartbeats 8000000 in
theorem fnSums_walk (A0 : Option Addr) (n0 c0 : Nat) (l0 : List UInt8) (w : World) (w0 : Rd w A0 n0 c0 (bv l0)) :
    Calls Try.prog 5 #[.slice A0 n0 c0] w fun e w' => e = .returned (.bool true) ∧ Below w.heap.size w w' := by
  have hb0 := w0.bnd
  by_cases hn : n0 ≤ 1048576
  rotate_left
  · have C := Lib.hid (L_big_yes A0 n0 c0 w hb0 hn)
    go_enter Try.func5, Try.ntmps5
    go_wp2_with fail
    refine C.out.mono ?_
    rintro e W ⟨rfl, rfl⟩
    go_wp2_with fail
    go_ret
    exact ⟨rfl, Below.refl _ _⟩
  have C := Lib.hid (L_big_no A0 n0 c0 w hb0 hn)
  go_enter Try.func5, Try.ntmps5
  go_wp2_with fail
  refine C.out.mono ?_
  rintro e W ⟨rfl, rfl⟩
  clear C
  go_wp2_with fail
  refine (S_DrawSha2 A0 n0 c0 l0 w w0).mono ?_
  rintro e W1 ⟨A1, n1, c1, r1, rfl, ⟨o1, l1⟩, B1⟩
  have q1 := o1.rd
  have e1 : r1.length = n1 := by have := q1.len; rwa [bv_len] at this
  have b1 := q1.bnd
  have q0 := w0.below B1 (Nat.le_refl _)
  clear o1
  go_wp2_with fail
  refine (S_DrawHashAdd A0 n0 c0 l0 W1 q0).mono ?_
  rintro e W2 ⟨v, A2, n2, c2, r2, rfl, ⟨B, m, q, D, p, r, k, rfl⟩, ⟨o2, l2⟩, b2⟩
  have q2 := o2.rd
  have e2 : r2.length = n2 := by have := q2.len; rwa [bv_len] at this
  have b2b := q2.bnd
  have B2 := bnext B1 b2
  have q1 := q1.below b2 (Nat.le_refl _)
  have n1b := sums_len e1 l1
  have n2b := sums_len e2 l2
  have HE1 := Lib.hid e1
  have HE2 := Lib.hid e2
  have HL := Lib.hid (And.intro l1 l2)
  have B3 := balloc B2 (.cells #[.slice B m q, .slice D p r, .int .i64 k] 31)
  have q1 := q1.alloc (.cells #[.slice B m q, .slice D p r, .int .i64 k] 31)
  have q2 := q2.alloc (.cells #[.slice B m q, .slice D p r, .int .i64 k] 31)
  have zz : (W2.alloc (.cells #[.slice B m q, .slice D p r, .int .i64 k] 31)).heap.size = W2.heap.size + 1 := by simp
  have HO := own_empty (W2.alloc (.cells #[.slice B m q, .slice D p r, .int .i64 k] 31)) 5
  have Bx := balloc (Below.refl (W2.alloc (.cells #[.slice B m q, .slice D p r, .int .i64 k] 31)).heap.size (W2.alloc (.cells #[.slice B m q, .slice D p r, .int .i64 k] 31))) (.cells #[] 5)
  have q6 := Bx.size
  rw [zz] at HO Bx q6
  have HO := Lib.hid HO
  have q1a := q1.alloc (.cells #[] 5)
  have q5 : 0 + n1 ≤ 70368744177664 := by omega
  have q7 : n1 + n2 ≤ 70368744177664 := by omega
  clear o2 e1 e2 l1 l2 q0 w0
  go_wp2_with (first
    | (at_builtin; refine append_bytes _ rfl _ _ rfl (W2.heap.size + 1) _ _ _ r1 rfl HO4 _ _ _ r2 rfl q2b q7 q8 ?_; intro A4 c4 W5 HO5 b5)
    | (at_builtin; refine append_bytes _ rfl _ _ rfl (W2.heap.size + 1) _ _ _ [] rfl HO _ _ _ r1 rfl q1a q5 q6 ?_; rw [Nat.zero_add, List.nil_append]; intro A3 c3 W4 HO4 b4; have b4' := Bx.trans b4; have q2b := q2.below b4' (Nat.le_of_eq zz); have q1b := q1.below b4' (Nat.le_of_eq zz); have q8 : W2.heap.size + 1 ≤ W4.heap.size := zz ▸ b4'.size))
  have BB := b4'.trans b5
  have B5 := B3.trans (BB.mono (Nat.le_of_lt (Nat.lt_succ_of_le B2.size)))
  have q1 := q1.below BB (Nat.le_of_eq zz)
  have q2 := q2.below BB (Nat.le_of_eq zz)
  have qA := own_rd HO5.out
  have HN := Lib.hid (show (r1 ++ r2).length = n1 + n2 by rw [List.length_append, HE1.out, HE2.out])
  have nNb : n1 + n2 ≤ 280 := by omega
  clear b4 b5 b4' HO HO4 HO5 q1a q2b q1b q5 q6 q7 q8 Bx BB B3 zz b2
  refine (I_HashNew W5).mono ?_
  rintro e W6 ⟨Aa, na, ca, Ba, ma, da, rfl, o6, b6⟩
  have B6 := bnext B5 b6
  have q1 := q1.below b6 (Nat.le_refl _)
  have q2 := q2.below b6 (Nat.le_refl _)
  have qA := qA.below b6 (Nat.le_refl _)
  have CF := I_First Aa Ba na ca ma da A1 n1 c1 r1 W6 o6.ints.rd o6.bytes.rd q1 (by have := HE1.out; omega)
  rw [HE1.out] at CF
  have CF := Lib.hid CF
  clear o6
  go_wp2_with fail
  refine CF.out.mono ?_
  rintro e W7 ⟨Ah, nh, ch, Bh, mh, dh, rfl, o7, b7⟩
  have B7 := bnext B6 b7
  have h1 := o7.ints.rd
  have h2 := o7.bytes.rd
  have q1 := q1.below b7 (Nat.le_refl _)
  have q2 := q2.below b7 (Nat.le_refl _)
  have qA := qA.below b7 (Nat.le_refl _)
  obtain ⟨W8, hW8⟩ : ∃ V, V = W7.alloc (.cells #[.slice Ah nh ch, .slice Bh mh dh, .int .i64 (n1 : Int)] 31) := ⟨_, rfl⟩
  have b8 : Below W7.heap.size W7 W8 := by rw [hW8]; exact balloc (Below.refl _ _) _
  have X8 : Wx W8 W7.heap.size (.slice Ah nh ch) (.slice Bh mh dh) (.int .i64 (n1 : Int)) := by rw [hW8]; exact Wx.new _ _ _ _ _
  have B8 := bnext B7 b8
  have h1 := h1.below b8 (Nat.le_refl _)
  have h2 := h2.below b8 (Nat.le_refl _)
  have q1 := q1.below b8 (Nat.le_refl _)
  have q2 := q2.below b8 (Nat.le_refl _)
  have qA := qA.below b8 (Nat.le_refl _)
  obtain ⟨p0, p1, p2, -, -, -⟩ := X8.cells3
  have xl := X8.lt
  have CM := I_More Ah Bh nh ch mh dh r1 A2 n2 c2 r2 W8 h1 h2 q2 (by have := HE1.out; have := HE2.out; omega)
  rw [HE1.out, HN.out] at CM
  have CM := Lib.hid CM
  have HW8 := Lib.hid hW8
  clear o7 hW8 CF
  go_wp2_with fail
  rw [← HW8.out]
  refine CM.out.mono ?_
  rintro e W9 ⟨Ak, nk, ck, Bk, mk, dk, rfl, o9, b9⟩
  have B9 := bnext B8 b9
  have k1 := o9.ints.rd
  have k2 := o9.bytes.rd
  have h1 := h1.below b9 (Nat.le_refl _)
  have h2 := h2.below b9 (Nat.le_refl _)
  have q1 := q1.below b9 (Nat.le_refl _)
  have qA := qA.below b9 (Nat.le_refl _)
  have X9 := X8.below b9 xl
  obtain ⟨W10, hW10⟩ : ∃ V, V = W9.alloc (.cells #[.slice Ak nk ck, .slice Bk mk dk, .int .i64 ((n1 + n2 : Nat) : Int)] 31) := ⟨_, rfl⟩
  have b10 : Below W9.heap.size W9 W10 := by rw [hW10]; exact balloc (Below.refl _ _) _
  have Y10 : Wx W10 W9.heap.size (.slice Ak nk ck) (.slice Bk mk dk) (.int .i64 ((n1 + n2 : Nat) : Int)) := by rw [hW10]; exact Wx.new _ _ _ _ _
  have B10 := bnext B9 b10
  have k1 := k1.below b10 (Nat.le_refl _)
  have k2 := k2.below b10 (Nat.le_refl _)
  have h1 := h1.below b10 (Nat.le_refl _)
  have h2 := h2.below b10 (Nat.le_refl _)
  have q1 := q1.below b10 (Nat.le_refl _)
  have qA := qA.below b10 (Nat.le_refl _)
  have X10 := X9.below b10 X9.lt
  have xl := X10.lt
  have yl := Y10.lt
  have HW10 := Lib.hid hW10
  have HN1 := Lib.hid (show r1.length ≤ 1048576 by have := HL.out.1; omega)
  have HN2 := Lib.hid (show (r1 ++ r2).length ≤ 1048576 by have := HN.out; omega)
  have HS := Lib.hid (show (shaL (r1 ++ r2)).length = 32 by rw [shaL_len, if_pos HN2.out])
  generalize n1 + n2 = N at *
  clear hW10 o9 p0 p1 p2 CM HW8 X8 X9 q2
  go_wp2_with fail
  rw [← HW10.out]
  refine (I_Sha A4 N c4 (r1 ++ r2) W10 qA).mono ?_
  rintro e W11 ⟨As, ns, cs, rfl, o11, b11⟩
  have hns : 32 = ns := by have h := o11.rd.len; rw [bv_len, HS.out] at h; exact h
  subst hns
  have B11 := bnext B10 b11
  have s1 := o11.rd
  have k1 := k1.below b11 (Nat.le_refl _)
  have k2 := k2.below b11 (Nat.le_refl _)
  have h1 := h1.below b11 (Nat.le_refl _)
  have h2 := h2.below b11 (Nat.le_refl _)
  have q1 := q1.below b11 (Nat.le_refl _)
  have qA := qA.below b11 (Nat.le_refl _)
  have X11 := X10.below b11 xl
  have Y11 := Y10.below b11 yl
  clear o11 X10 Y10 xl yl HW10
  go_wp2_with fail
  refine (S_Sha A4 N c4 (r1 ++ r2) W11 qA).mono ?_
  rintro e W12 ⟨At, nt, ct, rfl, o12, b12⟩
  have B12 := bnext B11 b12
  have t1 := o12.rd
  have s1 := s1.below b12 (Nat.le_refl _)
  have k1 := k1.below b12 (Nat.le_refl _)
  have k2 := k2.below b12 (Nat.le_refl _)
  have h1 := h1.below b12 (Nat.le_refl _)
  have h2 := h2.below b12 (Nat.le_refl _)
  have q1 := q1.below b12 (Nat.le_refl _)
  have X12 := X11.below b12 X11.lt
  have Y12 := Y11.below b12 Y11.lt
  clear o12 X11 Y11 qA
  go_wp2_with fail
  refine (L_same_yes _ _ _ _ _ _ _ _ _ s1 t1 rfl).mono ?_
  rintro e V ⟨rfl, rfl⟩
  obtain ⟨p0, p1, p2, -, -, -⟩ := X12.cells3
  have CO := I_SumOk _ _ _ _ _ _ r1 _ h1 h2 HN1.out
  rw [HE1.out] at CO
  have CO := Lib.hid CO
  clear t1
  go_wp2_with fail
  refine CO.out.mono ?_
  rintro e W13 ⟨rfl, b13⟩
  have B13 := bnext B12 b13
  have s1 := s1.below b13 (Nat.le_refl _)
  have k1 := k1.below b13 (Nat.le_refl _)
  have k2 := k2.below b13 (Nat.le_refl _)
  have h1 := h1.below b13 (Nat.le_refl _)
  have h2 := h2.below b13 (Nat.le_refl _)
  have q1 := q1.below b13 (Nat.le_refl _)
  have X13 := X12.below b13 X12.lt
  have Y13 := Y12.below b13 Y12.lt
  have CK := I_SumOk _ _ _ _ _ _ (r1 ++ r2) _ k1 k2 HN2.out
  rw [HN.out] at CK
  have CK := Lib.hid CK
  clear X12 Y12 p0 p1 p2 CO
  obtain ⟨p0, p1, p2, -, -, -⟩ := Y13.cells3
  go_wp2_with fail
  refine CK.out.mono ?_
  rintro e W14 ⟨rfl, b14⟩
  have B14 := bnext B13 b14
  have s1 := s1.below b14 (Nat.le_refl _)
  have k1 := k1.below b14 (Nat.le_refl _)
  have k2 := k2.below b14 (Nat.le_refl _)
  have h1 := h1.below b14 (Nat.le_refl _)
  have h2 := h2.below b14 (Nat.le_refl _)
  have q1 := q1.below b14 (Nat.le_refl _)
  have X14 := X13.below b14 X13.lt
  have Y14 := Y13.below b14 Y13.lt
  have CE := I_SumEnd _ _ _ _ _ _ (r1 ++ r2) _ k1 k2 HN2.out
  rw [HN.out] at CE
  have CE := Lib.hid CE
  clear X13 Y13 p0 p1 p2 CK
  obtain ⟨p0, p1, p2, -, -, -⟩ := Y14.cells3
  go_wp2_with fail
  refine CE.out.mono ?_
  rintro e W15 ⟨Au, nu, cu, rfl, o15, b15⟩
  have B15 := bnext B14 b15
  have u1 := o15.rd
  have s1 := s1.below b15 (Nat.le_refl _)
  have h1 := h1.below b15 (Nat.le_refl _)
  have h2 := h2.below b15 (Nat.le_refl _)
  have q1 := q1.below b15 (Nat.le_refl _)
  have X15 := X14.below b15 X14.lt
  clear X14 Y14 p0 p1 p2 CE k1 k2 o15
  go_wp2_with fail
  refine (L_same_yes _ _ _ _ _ _ _ _ _ u1 s1 rfl).mono ?_
  rintro e V ⟨rfl, rfl⟩
  have CH := I_SumEnd _ _ _ _ _ _ r1 _ h1 h2 HN1.out
  rw [HE1.out] at CH
  have CH := Lib.hid CH
  clear u1 s1
  obtain ⟨p0, p1, p2, -, -, -⟩ := X15.cells3
  go_wp2_with fail
  refine CH.out.mono ?_
  rintro e W16 ⟨Av, nv, cv, rfl, o16, b16⟩
  have B16 := bnext B15 b16
  have v1 := o16.rd
  have q1 := q1.below b16 (Nat.le_refl _)
  clear X15 p0 p1 p2 CH o16 h1 h2
  go_wp2_with fail
  refine (I_Sha _ _ _ r1 _ q1).mono ?_
  rintro e W17 ⟨Ax, nx, cx, rfl, o17, b17⟩
  have B17 := bnext B16 b17
  have v1 := v1.below b17 (Nat.le_refl _)
  go_wp2_with fail
  refine (L_same_yes _ _ _ _ _ _ _ _ _ v1 o17.rd rfl).mono ?_
  rintro e V ⟨rfl, rfl⟩
  go_wp2_with fail
  go_ret
  exact ⟨rfl, B17⟩

set_option maxRecDepth 100000 in
theorem fnSums_lifted (os : Os) (started : os.Started) (H : Type) (enc : TypeId × Value → H) :
    ReturnsInHanded {} Try.checked os 5 .any (Rows.fnSumsSpec.pre6 enc Try.prog Try.f5 Rows.fnSumsRow.domain false) (Rows.fnSumsSpec.post enc Try.prog Try.f5 false true false false) := by
  refine returnsInHanded_of_change (C := Try.checked) own started (by kernel_rfl) Try.func5
    (ChangeSpec.witness6 (enc := enc) (C := Try.checked) false ⟨#[], #[.slice none 0 0], []⟩ 8 (by kernel_rfl) (by kernel_rfl) (by kernel_rfl) (by kernel_rfl)) ?_
  intro W base args ds gs before hval0 hW hcnd _
  have hval : ∀ (j : Nat) t v, Try.f5.params[j]? = some t → args[j]? = some v → Value.okWide Try.prog W .any base t v := hval0
  have hW' := hW
  obtain ⟨p, q, hA0, hV, rfl, hfz, hnd⟩ := hW
  have hA : DataW.TrodAll enc Try.prog W 0 (fun _ => true) true Try.f5.params.toList args.toList ds p := hA0
  rw [Try.params5] at hA hval
  obtain ⟨v0, vs0, d0, ds0, p0, q0, hargs, rfl, rfl, h0, r0⟩ := trodAll_cons hA
  obtain ⟨rfl, rfl, rfl⟩ := trodAll_nil r0
  obtain rfl : args = #[v0] := by cases args; simp_all
  obtain ⟨rfl, rfl⟩ := trodVars_none hV
  have k0 := h0
  have lt0 : ∀ x ∈ p0, x.block < W.heap.size := by obtain ⟨m, hm⟩ := k0; exact DataW.trod_lt m _ _ _ hm
  obtain ⟨A0, n0, c0, rfl⟩ := okWide_slice Try.underlying22 (hval 0 22 v0 rfl rfl)
  obtain ⟨l0, w0⟩ : ∃ l, Rd W A0 n0 c0 (bv l) := by
    obtain ⟨fuel, hf⟩ := h0
    exact open_bytes Try.underlying22 Try.underlying5 (by kernel_rfl) (by simpa [Value.cells] using hf)
  clear hA0 hval0
  refine (fnSums_walk A0 n0 c0 l0 W w0).mono fun e W' ⟨he, bel⟩ => ?_
  subst he
  exact ⟨_, rfl, _, _, _, [], _, [], hW', trodAll_mk1 (shut_bool Try.underlying4 _), (trodAll_cons_mk (Below.trod laidOut (by kernel_rfl) (of_decide_eq_true (by kernel_rfl)) k0 bel lt0) trodAll_mk0), rfl, bel.frame _, fun h => by cases h⟩

theorem fnSums_over : Rows.fnSumsRow.holds Try.pinned (OpenSpec.ofChange Rows.fnSumsSpec) :=
  OpenClaim.holds_of_wide 5 Try.f5 rfl rfl rfl rfl rfl rfl rfl ⟨rfl, rfl, rfl, rfl, rfl⟩ rfl rfl rfl rfl rfl (by kernel_rfl) Try.func5 (by kernel_rfl)
    (of_decide_eq_true (by kernel_rfl)) (by unfold Func.isWrapper; first | (rw [if_pos (by decide +kernel)]; kernel_rfl) | (rw [if_neg (by decide +kernel)]; exact ⟨rfl, rfl⟩))
    (fun os started H enc _ => fnSums_lifted os started H enc)

/-- The statement. -/
theorem fnSums_proved : Rows.FnSumsSaid := fnSums_over
#print axioms fnSums_proved
end Go.Proofs.Ytnngiampfdjlfaa
