/- Proved: for every input that reads as data, laws.FnHex of the given program returns true and leaves its arguments as they read. No condition of its own. -/
import Derived.Test.YtfhpigfoeejhlaaBase
import Derived.Test.YtfhpigfoeejhlaaLaw
import Derived.Test.YtfhpigfoeejhlaaHexD
import Derived.Test.YtfhpigfoeejhlaaHexL
import Derived.Test.YtfhpigfoeejhlaaHexP
import Derived.Test.YtfhpigfoeejhlaaCut
namespace Go.Proofs.Ytfhpigfoeejhlaa
open Go.ChangeShapes Go.WideShapes Go.ChangeAt Go.RowKit
set_option linter.unusedVariables false

/-- append of bytes, where the operation's guard says yes. -/
theorem append_bytes_w (w : World) {ops : Array Oper} {rest : List Oper} {o : Oper} {a : Act} {Q : Exit → Act → World → Prop} (hw : Region.wanted o (yielded ops a.tmps) = true) (s x : Operand)
    (ho : o.op = .call { callee := .builtin .append, args := #[s, x], argTypes := #[23, 23] }) (base : Nat)
    (A0 : Option Addr) (n c0 : Nat) (xs : List UInt8) (hs : a.eval s = .slice A0 n c0) (hown : Hid (w.ownsRow base 5 1 (.slice A0 n c0) n (bv xs)))
    (A : Option Addr) (m c : Nat) (news : List UInt8) (hx : a.eval x = .slice A m c) (hr : Rd w A m c (bv news))
    (hnm : n + m ≤ 70368744177664) (hbase : base ≤ w.heap.size)
    (h : ∀ A' c' w', Hid (w'.ownsRow base 5 1 (.slice A' (n + m) c') (n + m) (bv (xs ++ news))) → Below base w w' → wpList Try.prog ops Q rest (a.put o.dst (.slice A' (n + m) c')) w') : wpList Try.prog ops Q (o :: rest) a w := by
  obtain ⟨i0, hi0, hz0, hz1, hz2⟩ := info_parts info_u8
  exact BigFrame.wpList_want hw fun _ hK => wp_append_rd w s x 23 ho base 5 i0 (.int .u8 0) 1 Try.underlying23 hi0 hz0 hz1 hz2 rfl A0 n c0 _ hs hown.out A m c _ hx hr (bv_one _) (by unfold maxLen; omega) (by omega) hbase fun A' c' w' h2 h3 => hK _ _ (h A' c' w' (by rw [bv_app]; exact h2) h3)
theorem str_back (l : List UInt8) (t : ByteArray) (h : l = t.data.toList) : (⟨l.toArray⟩ : ByteArray) = t := by
  rw [h]
theorem cut_first (l : List UInt8) (n k : Nat) (e : l.length = n) (h : k ≤ n) : cutL l 0 (k : Int) = l.take k ∧ cutB l 0 (k : Int) = true := by
  have ok : cutOk l 0 (k : Int) := by unfold cutOk; omega
  exact ⟨by rw [cutL, if_pos ok]; rfl, decide_eq_true ok⟩
theorem cut_rest (l : List UInt8) (n k : Nat) (e : l.length = n) (h : k ≤ n) : cutL l (k : Int) ((n : Int) - k) = l.drop k ∧ cutB l (k : Int) ((n : Int) - k) = true := by
  have ok : cutOk l (k : Int) ((n : Int) - k) := by unfold cutOk; omega
  exact ⟨by rw [cutL, if_pos ok, Int.toNat_natCast, List.take_of_length_le (by rw [List.length_drop]; omega)], decide_eq_true ok⟩
theorem cut_over (l : List UInt8) (n k : Nat) (e : l.length = n) (h : k ≤ n) : cutB l (k : Int) ((n : Int) - k + 1) = false := by
  refine decide_eq_false fun ok => ?_
  unfold cutOk at ok
  omega

set_option maxRecDepth 100000 in
set_option maxHeartbeats 8000000 in
theorem fnHex_walk (A0 : Option Addr) (n0 c0 : Nat) (l0 : List UInt8) (w : World) (w0 : Rd w A0 n0 c0 (bv l0)) :
    Calls Try.prog 5 #[.slice A0 n0 c0] w fun e w' => e = .returned (.bool true) ∧ Below w.heap.size w w' := by
  have hb0 := w0.bnd
  by_cases hn : n0 ≤ 1048576
  rotate_left
  · have C := Lib.hid (L_big_yes A0 n0 c0 w hb0 hn)
    go_enter Try.func5, Try.ntmps5
    go_wp2_with fail
    refine C.out.mono ?_
    rintro e W ⟨rfl, rfl⟩
    go_wp2_with fail
    go_ret
    exact ⟨rfl, Below.refl _ _⟩
  have C := Lib.hid (L_big_no A0 n0 c0 w hb0 hn)
  go_enter Try.func5, Try.ntmps5
  go_wp2_with fail
  refine C.out.mono ?_
  rintro e W ⟨rfl, rfl⟩
  go_wp2_with fail
  refine (S_DrawHexText A0 n0 c0 l0 w w0 hn).mono ?_
  rintro e W1 ⟨A1, n1, c1, r1, rfl, ⟨o1, l1⟩, B1⟩
  have q1 := o1.rd
  have e1 : r1.length = n1 := by have := q1.len; rwa [bv_len] at this
  have b1 := q1.bnd
  have HP := Lib.hid (parse_hexT r1 (by omega))
  have CH := Lib.hid (I_HexText A1 n1 c1 r1 W1 q1 (by omega))
  have hsz : (⟨(hexT r1).toArray⟩ : ByteArray).size ≤ 1048576 := by show (hexT r1).toArray.size ≤ _; rw [List.size_toArray, hexT_len]; omega
  have hdl : (⟨(hexT r1).toArray⟩ : ByteArray).data.toList = hexT r1 := rfl
  have CP := Lib.hid (fun W => I_ParseHex ⟨(hexT r1).toArray⟩ W hsz)
  rw [hdl, HP.out.1, HP.out.2] at CP
  generalize (⟨(hexT r1).toArray⟩ : ByteArray) = s1 at *
  clear o1 C HP hdl
  go_wp2_with fail
  refine CH.out.mono ?_
  rintro e W2 ⟨rfl, b2⟩
  have B2 := bnext B1 b2
  go_wp2_with fail
  refine (CP.out _).mono ?_
  rintro e W3 ⟨A3, n3, c3, rfl, o3, b3⟩
  have B3 := bnext B2 b3
  go_wp2_with fail
  refine (S_DrawParseHex A0 n0 c0 l0 W3 (w0.below B3 (Nat.le_refl _))).mono ?_
  rintro e W4 ⟨⟨t, rfl, ht⟩, b4⟩
  have B4 := bnext B3 b4
  have CA := Lib.hid (fun W => I_ParseHex t W (by omega))
  have CB := Lib.hid (fun W => S_ParseHex t W (by omega))
  have HT := Lib.hid (fun h => str_back _ t (hexT_parse t.data.toList h))
  have hpl := parseL_le t.data.toList
  generalize parseB t.data.toList = pb at *
  generalize parseL t.data.toList = pl at *
  clear CH CP
  go_wp2_with fail
  refine (CA.out _).mono ?_
  rintro e W5 ⟨A5, n5, c5, rfl, o5, b5⟩
  have B5 := bnext B4 b5
  have hn5 : n5 ≤ 200 := by have := o5.rd.len; rw [bv_len] at this; omega
  go_wp2_with fail
  refine (CB.out _).mono ?_
  rintro e W6 ⟨A6, n6, c6, rfl, o6, b6⟩
  have B6 := bnext B5 b6
  have q3 := ((o3.rd.below b4 (Nat.le_refl _)).below b5 (Nat.le_refl _)).below b6 (Nat.le_refl _)
  have q5 := o5.rd.below b6 (Nat.le_refl _)
  have q1 := ((((q1.below b2 (Nat.le_refl _)).below b3 (Nat.le_refl _)).below b4 (Nat.le_refl _)).below b5 (Nat.le_refl _)).below b6 (Nat.le_refl _)
  have q5b := q5.bnd
  clear o3 o5 o6 b2 b3 b4 b5 b6 CA CB
  by_cases hz : n1 = 0
  · subst hz
    have hkn : 0 ≤ 0 := Nat.le_refl 0
    go_wp2_with fail
    have p1 := cut_first r1 0 0 e1 hkn
    have p2 := cut_rest r1 0 0 e1 hkn
    have p3 := cut_over r1 0 0 e1 hkn
    have C1 := I_Cut A1 0 c1 r1 0 ((0 : Nat) : Int) W6 q1 (by omega)
    rw [p1.1, p1.2] at C1
    have C1 := Lib.hid C1
    have C2 := fun W h => I_Cut A1 0 c1 r1 ((0 : Nat) : Int) (((0 : Nat) : Int) - ((0 : Nat) : Int)) W h (by omega)
    rw [p2.1, p2.2] at C2
    have C2 := Lib.hid C2
    have C3 := fun W h => I_Cut A1 0 c1 r1 ((0 : Nat) : Int) (((0 : Nat) : Int) - ((0 : Nat) : Int) + 1) W h (by omega)
    rw [p3] at C3
    have C3 := Lib.hid C3
    have HTD := Lib.hid (List.take_append_drop 0 r1)
    clear p1 p2 p3
    refine C1.out.mono ?_
    rintro e W7 ⟨A7, n7, c7, rfl, o7, b7⟩
    have B7 := bnext B6 b7
    have q1 := q1.below b7 (Nat.le_refl _)
    go_wp2_with fail
    refine (C2.out W7 q1).mono ?_
    rintro e W8 ⟨A8, n8, c8, rfl, o8, b8⟩
    have B8 := bnext B7 b8
    have q1 := q1.below b8 (Nat.le_refl _)
    go_wp2_with fail
    refine (C3.out W8 q1).mono ?_
    rintro e W9 ⟨A9, n9, c9, rfl, o9, b9⟩
    have B9 := bnext B8 b9
    have q1 := q1.below b9 (Nat.le_refl _)
    have q3 := ((q3.below b7 (Nat.le_refl _)).below b8 (Nat.le_refl _)).below b9 (Nat.le_refl _)
    have q5 := ((q5.below b7 (Nat.le_refl _)).below b8 (Nat.le_refl _)).below b9 (Nat.le_refl _)
    have q7 := (o7.rd.below b8 (Nat.le_refl _)).below b9 (Nat.le_refl _)
    have q8 := o8.rd.below b9 (Nat.le_refl _)
    have hn7 : n7 ≤ 12 := by have := q7.len; rw [bv_len, List.length_take] at this; omega
    have hn8 : n8 ≤ 12 := by have := q8.len; rw [bv_len, List.length_drop] at this; omega
    have CS := Lib.hid (L_same_yes A3 A1 n3 c3 0 c1 _ _ W9 q3 q1 rfl)
    have CX := Lib.hid (fun W h => I_HexText A5 n5 c5 pl W h (by omega))
    clear C1 C2 C3 o7 o8 o9 b7 b8 b9 q3
    go_wp2_with fail
    refine CS.out.mono ?_
    rintro e W ⟨rfl, rfl⟩
    clear CS
    cases pb with
    | true =>
      have HX := HT.out rfl
      rw [HX] at CX
      go_wp2_with fail
      refine (CX.out W9 q5).mono ?_
      rintro e W10 ⟨rfl, b10⟩
      have B10 := bnext B9 b10
      have q1 := q1.below b10 (Nat.le_refl _)
      have q7 := q7.below b10 (Nat.le_refl _)
      have q8 := q8.below b10 (Nat.le_refl _)
      have HOA := Lib.hid (own_empty W10 5)
      have hra := q7.alloc (.cells #[] 5)
      have z5 : 0 + n7 ≤ 70368744177664 := by omega
      have z6 : W10.heap.size ≤ (W10.alloc (.cells #[] 5)).heap.size := by simp
      have z7 : n7 + n8 ≤ 70368744177664 := by omega
      clear CX HT
      go_wp2_with (first
        | (at_builtin; refine append_bytes_w _ (by simp [Region.wanted, yielded]) _ _ rfl W10.heap.size _ _ _ _ rfl HO11 _ _ _ _ rfl q8b z7 z8 ?_; intro A12 c12 W12 HO12 hb12)
        | (at_builtin; refine append_bytes_w _ (by simp [Region.wanted, yielded]) _ _ rfl W10.heap.size _ _ _ [] rfl HOA _ _ _ _ rfl hra z5 z6 ?_; intro A11 c11 W11 HO11 hb11; rw [Nat.zero_add, List.nil_append] at HO11; have b11 := (balloc (Below.refl W10.heap.size W10) (.cells #[] 5)).trans hb11; have q8b := q8.below b11 (Nat.le_refl _); have z8 := b11.size))
      have b12 := b11.trans hb12
      have ho12 := HO12.out
      rw [HTD.out] at ho12
      have CT := Lib.hid (L_same_yes A12 A1 _ c12 0 c1 _ _ W12 (own_rd ho12) (q1.below b12 (Nat.le_refl _)) rfl)
      refine CT.out.mono ?_
      rintro e W ⟨rfl, rfl⟩
      go_wp2_with fail
      go_ret
      exact ⟨rfl, bnext B10 b12⟩
    | false =>
      have HOA := Lib.hid (own_empty W9 5)
      have hra := q7.alloc (.cells #[] 5)
      have z5 : 0 + n7 ≤ 70368744177664 := by omega
      have z6 : W9.heap.size ≤ (W9.alloc (.cells #[] 5)).heap.size := by simp
      have z7 : n7 + n8 ≤ 70368744177664 := by omega
      clear CX HT
      go_wp2_with (first
        | (at_builtin; refine append_bytes_w _ (by simp [Region.wanted, yielded]) _ _ rfl W9.heap.size _ _ _ _ rfl HO11 _ _ _ _ rfl q8b z7 z8 ?_; intro A12 c12 W12 HO12 hb12)
        | (at_builtin; refine append_bytes_w _ (by simp [Region.wanted, yielded]) _ _ rfl W9.heap.size _ _ _ [] rfl HOA _ _ _ _ rfl hra z5 z6 ?_; intro A11 c11 W11 HO11 hb11; rw [Nat.zero_add, List.nil_append] at HO11; have b11 := (balloc (Below.refl W9.heap.size W9) (.cells #[] 5)).trans hb11; have q8b := q8.below b11 (Nat.le_refl _); have z8 := b11.size))
      have b12 := b11.trans hb12
      have ho12 := HO12.out
      rw [HTD.out] at ho12
      have CT := Lib.hid (L_same_yes A12 A1 _ c12 0 c1 _ _ W12 (own_rd ho12) (q1.below b12 (Nat.le_refl _)) rfl)
      refine CT.out.mono ?_
      rintro e W ⟨rfl, rfl⟩
      go_wp2_with fail
      go_ret
      exact ⟨rfl, bnext B9 b12⟩
  · have hz' : (0 : Int) < (n1 : Int) := by omega
    have CK := Lib.hid (L_at A0 n0 c0 l0 2 W6 (w0.below B6 (Nat.le_refl _)) (by omega) hn)
    go_wp2_with fail
    refine CK.out.mono ?_
    rintro e W ⟨⟨x, rfl, hx0, hx1⟩, rfl⟩
    have hne : (n1 : Int) + 1 ≠ 0 := by omega
    have hm0 := Int.emod_nonneg x hne
    have hm1 := Int.emod_lt_of_pos x (show 0 < (n1 : Int) + 1 by omega)
    obtain ⟨k, hk⟩ : ∃ k : Nat, x % ((n1 : Int) + 1) = (k : Int) := ⟨(x % ((n1 : Int) + 1)).toNat, by omega⟩
    have hxt : x.tmod ((n1 : Int) + 1) = (k : Int) := by rw [Int.tmod_eq_emod_of_nonneg hx0]; exact hk
    have hkn : k ≤ n1 := by omega
    clear hm0 hm1 CK
    go_wp2_with fail
    clear hk hxt hne
    have p1 := cut_first r1 n1 k e1 hkn
    have p2 := cut_rest r1 n1 k e1 hkn
    have p3 := cut_over r1 n1 k e1 hkn
    have C1 := I_Cut A1 n1 c1 r1 0 ((k : Nat) : Int) W6 q1 (by omega)
    rw [p1.1, p1.2] at C1
    have C1 := Lib.hid C1
    have C2 := fun W h => I_Cut A1 n1 c1 r1 ((k : Nat) : Int) (((n1 : Nat) : Int) - ((k : Nat) : Int)) W h (by omega)
    rw [p2.1, p2.2] at C2
    have C2 := Lib.hid C2
    have C3 := fun W h => I_Cut A1 n1 c1 r1 ((k : Nat) : Int) (((n1 : Nat) : Int) - ((k : Nat) : Int) + 1) W h (by omega)
    rw [p3] at C3
    have C3 := Lib.hid C3
    have HTD := Lib.hid (List.take_append_drop k r1)
    clear p1 p2 p3
    refine C1.out.mono ?_
    rintro e W7 ⟨A7, n7, c7, rfl, o7, b7⟩
    have B7 := bnext B6 b7
    have q1 := q1.below b7 (Nat.le_refl _)
    go_wp2_with fail
    refine (C2.out W7 q1).mono ?_
    rintro e W8 ⟨A8, n8, c8, rfl, o8, b8⟩
    have B8 := bnext B7 b8
    have q1 := q1.below b8 (Nat.le_refl _)
    go_wp2_with fail
    refine (C3.out W8 q1).mono ?_
    rintro e W9 ⟨A9, n9, c9, rfl, o9, b9⟩
    have B9 := bnext B8 b9
    have q1 := q1.below b9 (Nat.le_refl _)
    have q3 := ((q3.below b7 (Nat.le_refl _)).below b8 (Nat.le_refl _)).below b9 (Nat.le_refl _)
    have q5 := ((q5.below b7 (Nat.le_refl _)).below b8 (Nat.le_refl _)).below b9 (Nat.le_refl _)
    have q7 := (o7.rd.below b8 (Nat.le_refl _)).below b9 (Nat.le_refl _)
    have q8 := o8.rd.below b9 (Nat.le_refl _)
    have hn7 : n7 ≤ 12 := by have := q7.len; rw [bv_len, List.length_take] at this; omega
    have hn8 : n8 ≤ 12 := by have := q8.len; rw [bv_len, List.length_drop] at this; omega
    have CS := Lib.hid (L_same_yes A3 A1 n3 c3 n1 c1 _ _ W9 q3 q1 rfl)
    have CX := Lib.hid (fun W h => I_HexText A5 n5 c5 pl W h (by omega))
    clear C1 C2 C3 o7 o8 o9 b7 b8 b9 q3
    go_wp2_with fail
    refine CS.out.mono ?_
    rintro e W ⟨rfl, rfl⟩
    clear CS
    cases pb with
    | true =>
      have HX := HT.out rfl
      rw [HX] at CX
      go_wp2_with fail
      refine (CX.out W9 q5).mono ?_
      rintro e W10 ⟨rfl, b10⟩
      have B10 := bnext B9 b10
      have q1 := q1.below b10 (Nat.le_refl _)
      have q7 := q7.below b10 (Nat.le_refl _)
      have q8 := q8.below b10 (Nat.le_refl _)
      have HOA := Lib.hid (own_empty W10 5)
      have hra := q7.alloc (.cells #[] 5)
      have z5 : 0 + n7 ≤ 70368744177664 := by omega
      have z6 : W10.heap.size ≤ (W10.alloc (.cells #[] 5)).heap.size := by simp
      have z7 : n7 + n8 ≤ 70368744177664 := by omega
      clear CX HT
      go_wp2_with (first
        | (at_builtin; refine append_bytes_w _ (by simp [Region.wanted, yielded]) _ _ rfl W10.heap.size _ _ _ _ rfl HO11 _ _ _ _ rfl q8b z7 z8 ?_; intro A12 c12 W12 HO12 hb12)
        | (at_builtin; refine append_bytes_w _ (by simp [Region.wanted, yielded]) _ _ rfl W10.heap.size _ _ _ [] rfl HOA _ _ _ _ rfl hra z5 z6 ?_; intro A11 c11 W11 HO11 hb11; rw [Nat.zero_add, List.nil_append] at HO11; have b11 := (balloc (Below.refl W10.heap.size W10) (.cells #[] 5)).trans hb11; have q8b := q8.below b11 (Nat.le_refl _); have z8 := b11.size))
      have b12 := b11.trans hb12
      have ho12 := HO12.out
      rw [HTD.out] at ho12
      have CT := Lib.hid (L_same_yes A12 A1 _ c12 n1 c1 _ _ W12 (own_rd ho12) (q1.below b12 (Nat.le_refl _)) rfl)
      refine CT.out.mono ?_
      rintro e W ⟨rfl, rfl⟩
      go_wp2_with fail
      go_ret
      exact ⟨rfl, bnext B10 b12⟩
    | false =>
      have HOA := Lib.hid (own_empty W9 5)
      have hra := q7.alloc (.cells #[] 5)
      have z5 : 0 + n7 ≤ 70368744177664 := by omega
      have z6 : W9.heap.size ≤ (W9.alloc (.cells #[] 5)).heap.size := by simp
      have z7 : n7 + n8 ≤ 70368744177664 := by omega
      clear CX HT
      go_wp2_with (first
        | (at_builtin; refine append_bytes_w _ (by simp [Region.wanted, yielded]) _ _ rfl W9.heap.size _ _ _ _ rfl HO11 _ _ _ _ rfl q8b z7 z8 ?_; intro A12 c12 W12 HO12 hb12)
        | (at_builtin; refine append_bytes_w _ (by simp [Region.wanted, yielded]) _ _ rfl W9.heap.size _ _ _ [] rfl HOA _ _ _ _ rfl hra z5 z6 ?_; intro A11 c11 W11 HO11 hb11; rw [Nat.zero_add, List.nil_append] at HO11; have b11 := (balloc (Below.refl W9.heap.size W9) (.cells #[] 5)).trans hb11; have q8b := q8.below b11 (Nat.le_refl _); have z8 := b11.size))
      have b12 := b11.trans hb12
      have ho12 := HO12.out
      rw [HTD.out] at ho12
      have CT := Lib.hid (L_same_yes A12 A1 _ c12 n1 c1 _ _ W12 (own_rd ho12) (q1.below b12 (Nat.le_refl _)) rfl)
      refine CT.out.mono ?_
      rintro e W ⟨rfl, rfl⟩
      go_wp2_with fail
      go_ret
      exact ⟨rfl, bnext B9 b12⟩

set_option maxRecDepth 100000 in
theorem fnHex_lifted (os : Os) (started : os.Started) (H : Type) (enc : TypeId × Value → H) :
    ReturnsInHanded {} Try.checked os 5 .any (Rows.fnHexSpec.pre6 enc Try.prog Try.f5 Rows.fnHexRow.domain false) (Rows.fnHexSpec.post enc Try.prog Try.f5 false true false false) := by
  refine returnsInHanded_of_change (C := Try.checked) own started (by kernel_rfl) Try.func5
    (ChangeSpec.witness6 (enc := enc) (C := Try.checked) false ⟨#[], #[.slice none 0 0], []⟩ 8 (by kernel_rfl) (by kernel_rfl) (by kernel_rfl) (by kernel_rfl)) ?_
  intro W base args ds gs before hval0 hW hcnd _
  have hval : ∀ (j : Nat) t v, Try.f5.params[j]? = some t → args[j]? = some v → Value.okWide Try.prog W .any base t v := hval0
  have hW' := hW
  obtain ⟨p, q, hA0, hV, rfl, hfz, hnd⟩ := hW
  have hA : DataW.TrodAll enc Try.prog W 0 (fun _ => true) true Try.f5.params.toList args.toList ds p := hA0
  rw [Try.params5] at hA hval
  obtain ⟨v0, vs0, d0, ds0, p0, q0, hargs, rfl, rfl, h0, r0⟩ := trodAll_cons hA
  obtain ⟨rfl, rfl, rfl⟩ := trodAll_nil r0
  obtain rfl : args = #[v0] := by cases args; simp_all
  obtain ⟨rfl, rfl⟩ := trodVars_none hV
  have k0 := h0
  have lt0 : ∀ x ∈ p0, x.block < W.heap.size := by obtain ⟨m, hm⟩ := k0; exact DataW.trod_lt m _ _ _ hm
  obtain ⟨A0, n0, c0, rfl⟩ := okWide_slice Try.underlying23 (hval 0 23 v0 rfl rfl)
  obtain ⟨l0, w0⟩ : ∃ l, Rd W A0 n0 c0 (bv l) := by
    obtain ⟨fuel, hf⟩ := h0
    exact open_bytes Try.underlying23 Try.underlying5 (by kernel_rfl) (by simpa [Value.cells] using hf)
  clear hA0 hval0
  refine (fnHex_walk A0 n0 c0 l0 W w0).mono fun e W' ⟨he, bel⟩ => ?_
  subst he
  exact ⟨_, rfl, _, _, _, [], _, [], hW', trodAll_mk1 (shut_bool Try.underlying4 _), (trodAll_cons_mk (Below.trod laidOut (by kernel_rfl) (of_decide_eq_true (by kernel_rfl)) k0 bel lt0) trodAll_mk0), rfl, bel.frame _, fun h => by cases h⟩

theorem fnHex_over : Rows.fnHexRow.holds Try.pinned (OpenSpec.ofChange Rows.fnHexSpec) :=
  OpenClaim.holds_of_wide 5 Try.f5 rfl rfl rfl rfl rfl rfl rfl ⟨rfl, rfl, rfl, rfl, rfl⟩ rfl rfl rfl rfl rfl (by kernel_rfl) Try.func5 (by kernel_rfl)
    (of_decide_eq_true (by kernel_rfl)) (by unfold Func.isWrapper; first | (rw [if_pos (by decide +kernel)]; kernel_rfl) | (rw [if_neg (by decide +kernel)]; exact ⟨rfl, rfl⟩))
    (fun os started H enc _ => fnHex_lifted os started H enc)

/-- The statement. -/
theorem fnHex_proved : Rows.FnHexSaid := fnHex_over
#print axioms fnHex_proved
end Go.Proofs.Ytfhpigfoeejhlaa
