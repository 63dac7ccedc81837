/- Proved: for every input that reads as data, laws.FnExactHashAdd of the given program returns true and leaves its arguments as they read. No condition of its own. -/
import Derived.Test.YtnngiampfdjlfaaBase
import Derived.Test.YtnngiampfdjlfaaHashB
import Derived.Test.YtnngiampfdjlfaaShaI3
import Derived.Test.YtnngiampfdjlfaaToHash
import Derived.Test.YtnngiampfdjlfaaToByte
import Derived.Test.YtnngiampfdjlfaaToInt
import Derived.Test.YtnngiampfdjlfaaEqByte
import Derived.Test.YtnngiampfdjlfaaEqInt
import Derived.Test.YtnngiampfdjlfaaMarkByte
import Derived.Test.YtnngiampfdjlfaaMarkInt
namespace Go.Proofs.Ytnngiampfdjlfaa
open Go.ChangeShapes Go.WideShapes Go.ChangeAt Go.RowKit
set_option linter.unusedVariables false

set_option maxRecDepth 100000 in
set_option maxHeartbeats 2000000 in
theorem fnExactHashAdd_walk (A0 : Option Addr) (n0 c0 : Nat) (l0 : List Int) (B0 : Option Addr) (m0 d0 : Nat) (k0 : List UInt8) (a0 : Int) (A1 : Option Addr) (n1 c1 : Nat) (l1 : List UInt8) (w : World) (w0 : Rd w A0 n0 c0 (iv l0)) (x0 : ∀ z ∈ l0, -9223372036854775808 ≤ z ∧ z ≤ 9223372036854775807) (y0 : Rd w B0 m0 d0 (bv k0)) (z0 : -9223372036854775808 ≤ a0 ∧ a0 ≤ 9223372036854775807) (w1 : Rd w A1 n1 c1 (bv l1)) :
    Calls Try.prog 4 #[.agg #[.slice A0 n0 c0, .slice B0 m0 d0, .int .i64 a0], .slice A1 n1 c1] w fun e w' => e = .returned (.bool true) ∧ Below w.heap.size w w' := by
  by_cases hn1 : n1 ≤ 1048576
  rotate_left
  · have hb1 := w1.bnd
    go_enter Try.func4, Try.ntmps4
    go_wp2_with fail
    go_ret
    exact ⟨rfl, by repeat (first | exact Below.refl _ _ | exact balloc (Below.refl _ _) _)⟩
  by_cases hs0 : n0 + m0 ≤ 1048576
  rotate_left
  · have hb0 := w0.bnd; have hc0 := y0.bnd
    have hb1 := w1.bnd
    go_enter Try.func4, Try.ntmps4
    go_wp2_with fail
    refine (L_szHash_no _ _ _ _ _ _ _ _ hs0 hb0 hc0).mono ?_
    rintro e W1 ⟨rfl, b1⟩
    go_wp2_with fail
    go_ret
    exact ⟨rfl, bnext (balloc (Below.refl _ _) _) b1⟩
  have hb1 := w1.bnd
  have hb0 := w0.bnd; have hc0 := y0.bnd
  have B : Below w.heap.size w w := Below.refl _ _
  obtain ⟨W1, hW1⟩ : ∃ V, V = w.alloc (.cells #[.slice A0 n0 c0, .slice B0 m0 d0, .int .i64 a0] 29) := ⟨_, rfl⟩
  have b1 : Below w.heap.size w W1 := by rw [hW1]; exact (Below.refl _ _).alloc (Nat.le_refl _) _
  have z1 : w.heap.size < W1.heap.size := by rw [hW1]; simp
  have X1 : Bx W1 w.heap.size (.slice A0 n0 c0) (.slice B0 m0 d0) (.int .i64 a0) := by rw [hW1]; exact Bx.new _ _ _ _ _
  have HW1 := Lib.hid hW1; clear hW1
  replace B := bnext B b1
  go_enter Try.func4, Try.ntmps4
  go_wp2_with fail
  rw [← HW1.out]
  clear HW1
  refine (L_szHash_yes _ _ _ _ _ _ _ _ hs0).mono ?_
  rintro e W2 ⟨rfl, b2⟩
  have s2 := b2.size
  replace X1 := X1.below b2 (by omega)
  replace B := bnext B b2
  obtain ⟨xa1, xb1, xc1⟩ := id X1
  go_wp2_with fail
  clear xa1 xb1 xc1
  refine (L_toHash _ _ _ _ _ _ l0 k0 a0 _ (w0.below B (Nat.le_refl _)) (y0.below B (Nat.le_refl _)) (by omega)).mono ?_
  rintro e W3 ⟨A_3, n_3, c_3, B_3, m_3, d_3, rfl, o3, b3⟩
  have s3 := b3.size
  replace X1 := X1.below b3 (by omega)
  replace B := bnext B b3
  have hn_3 : n_3 ≤ 1048576 := by have h1 := o3.ints.rd.len; rw [iv_len] at h1; have h2 := w0.len; rw [iv_len] at h2; omega
  have hm_3 : m_3 ≤ 1048576 := by have h1 := o3.bytes.rd.len; rw [bv_len] at h1; have h2 := y0.len; rw [bv_len] at h2; omega
  obtain ⟨xa1, xb1, xc1⟩ := id X1
  go_wp2_with fail
  clear xa1 xb1 xc1
  refine (L_toByteS _ _ _ l1 _ (w1.below B (Nat.le_refl _)) hn1).mono ?_
  rintro e W4 ⟨A_4, n_4, c_4, rfl, o4, b4⟩
  have s4 := b4.size
  replace o3 := o3.below b4 (by omega)
  replace X1 := X1.below b4 (by omega)
  replace B := bnext B b4
  have hn_4 : n_4 ≤ 1048576 := by have h1 := o4.rd.len; rw [bv_len] at h1; have h2 := w1.len; rw [bv_len] at h2; omega
  obtain ⟨xa1, xb1, xc1⟩ := id X1
  go_wp2_with fail
  clear xa1 xb1 xc1
  refine (S_HashAdd _ _ _ _ _ _ l0 k0 a0 _ _ _ l1 _ o3.ints.rd o3.bytes.rd o4.rd (by omega) (by omega) (by omega)).mono ?_
  rintro e W5 ⟨A_5, n_5, c_5, B_5, m_5, d_5, rfl, o5, b5⟩
  have s5 := b5.size
  replace o3 := o3.below b5 (by omega)
  replace o4 := o4.below b5 (by omega)
  replace X1 := X1.below b5 (by omega)
  replace B := bnext B b5
  have hn_5 : n_5 ≤ 1048576 := by have h1 := o5.ints.rd.len; rw [iv_len] at h1; have h2 := addW_len l0 k0 a0 l1; have h3 := w0.len; rw [iv_len] at h3; omega
  have hm_5 : m_5 ≤ 1048576 := by have h1 := o5.bytes.rd.len; rw [bv_len] at h1; have h2 := addH_le l0 k0 a0 l1 (by have h3 := y0.len; rw [bv_len] at h3; omega); omega
  clear o3
  clear o4
  obtain ⟨xa1, xb1, xc1⟩ := id X1
  have y6_1 : w.heap.size < W5.heap.size := by omega
  obtain ⟨W6, hW6⟩ : ∃ V, V = W5.alloc (.cells #[.slice A_5 n_5 c_5, .slice B_5 m_5 d_5, .int .i64 (addN l0 k0 a0 l1)] 31) := ⟨_, rfl⟩
  have b6 : Below W5.heap.size W5 W6 := by rw [hW6]; exact (Below.refl _ _).alloc (Nat.le_refl _) _
  have z6 : W5.heap.size < W6.heap.size := by rw [hW6]; simp
  have X6 : Bx W6 W5.heap.size (.slice A_5 n_5 c_5) (.slice B_5 m_5 d_5) (.int .i64 (addN l0 k0 a0 l1)) := by rw [hW6]; exact Bx.new _ _ _ _ _
  have HW6 := Lib.hid hW6; clear hW6
  replace o5 := o5.below b6 (by omega)
  replace X1 := X1.below b6 (by omega)
  replace B := bnext B b6
  go_wp2_with fail
  rw [← HW6.out]
  clear HW6
  clear xa1 xb1 xc1 y6_1
  refine (L_toHash _ _ _ _ _ _ l0 k0 a0 _ (w0.below B (Nat.le_refl _)) (y0.below B (Nat.le_refl _)) (by omega)).mono ?_
  rintro e W7 ⟨A_7, n_7, c_7, B_7, m_7, d_7, rfl, o7, b7⟩
  have s7 := b7.size
  replace o5 := o5.below b7 (by omega)
  replace X1 := X1.below b7 (by omega)
  replace X6 := X6.below b7 (by omega)
  replace B := bnext B b7
  have hn_7 : n_7 ≤ 1048576 := by have h1 := o7.ints.rd.len; rw [iv_len] at h1; have h2 := w0.len; rw [iv_len] at h2; omega
  have hm_7 : m_7 ≤ 1048576 := by have h1 := o7.bytes.rd.len; rw [bv_len] at h1; have h2 := y0.len; rw [bv_len] at h2; omega
  obtain ⟨xa1, xb1, xc1⟩ := id X1
  obtain ⟨xa6, xb6, xc6⟩ := id X6
  have y8_1 : w.heap.size < W7.heap.size := by omega
  have y8_6 : W5.heap.size < W7.heap.size := by omega
  obtain ⟨W8, hW8⟩ : ∃ V, V = W7.alloc (.cells #[.slice A_7 n_7 c_7, .slice B_7 m_7 d_7, .int .i64 a0] 31) := ⟨_, rfl⟩
  have b8 : Below W7.heap.size W7 W8 := by rw [hW8]; exact (Below.refl _ _).alloc (Nat.le_refl _) _
  have z8 : W7.heap.size < W8.heap.size := by rw [hW8]; simp
  have X8 : Bx W8 W7.heap.size (.slice A_7 n_7 c_7) (.slice B_7 m_7 d_7) (.int .i64 a0) := by rw [hW8]; exact Bx.new _ _ _ _ _
  have HW8 := Lib.hid hW8; clear hW8
  replace o5 := o5.below b8 (by omega)
  replace o7 := o7.below b8 (by omega)
  replace X1 := X1.below b8 (by omega)
  replace X6 := X6.below b8 (by omega)
  replace B := bnext B b8
  go_wp2_with fail
  rw [← HW8.out]
  clear HW8
  clear xa1 xb1 xc1 xa6 xb6 xc6 y8_1 y8_6
  refine (L_toByteS _ _ _ l1 _ (w1.below B (Nat.le_refl _)) hn1).mono ?_
  rintro e W9 ⟨A_9, n_9, c_9, rfl, o9, b9⟩
  have s9 := b9.size
  replace o5 := o5.below b9 (by omega)
  replace o7 := o7.below b9 (by omega)
  replace X1 := X1.below b9 (by omega)
  replace X6 := X6.below b9 (by omega)
  replace X8 := X8.below b9 (by omega)
  replace B := bnext B b9
  have hn_9 : n_9 ≤ 1048576 := by have h1 := o9.rd.len; rw [bv_len] at h1; have h2 := w1.len; rw [bv_len] at h2; omega
  obtain ⟨xa1, xb1, xc1⟩ := id X1
  obtain ⟨xa6, xb6, xc6⟩ := id X6
  obtain ⟨xa8, xb8, xc8⟩ := id X8
  go_wp2_with fail
  clear xa1 xb1 xc1 xa6 xb6 xc6 xa8 xb8 xc8
  refine (I_HashAdd _ _ _ _ _ _ l0 k0 a0 _ _ _ l1 _ o7.ints.rd o7.bytes.rd o9.rd (by omega) (by omega) (by omega)).mono ?_
  rintro e W10 ⟨A_10, n_10, c_10, B_10, m_10, d_10, rfl, o10, b10⟩
  have s10 := b10.size
  replace o5 := o5.below b10 (by omega)
  replace o7 := o7.below b10 (by omega)
  replace o9 := o9.below b10 (by omega)
  replace X1 := X1.below b10 (by omega)
  replace X6 := X6.below b10 (by omega)
  replace X8 := X8.below b10 (by omega)
  replace B := bnext B b10
  have hn_10 : n_10 ≤ 1048576 := by have h1 := o10.ints.rd.len; rw [iv_len] at h1; have h2 := addW_len l0 k0 a0 l1; have h3 := w0.len; rw [iv_len] at h3; omega
  have hm_10 : m_10 ≤ 1048576 := by have h1 := o10.bytes.rd.len; rw [bv_len] at h1; have h2 := addH_le l0 k0 a0 l1 (by have h3 := y0.len; rw [bv_len] at h3; omega); omega
  obtain ⟨xa1, xb1, xc1⟩ := id X1
  obtain ⟨xa6, xb6, xc6⟩ := id X6
  obtain ⟨xa8, xb8, xc8⟩ := id X8
  have y11_1 : w.heap.size < W10.heap.size := by omega
  have y11_6 : W5.heap.size < W10.heap.size := by omega
  have y11_8 : W7.heap.size < W10.heap.size := by omega
  obtain ⟨W11, hW11⟩ : ∃ V, V = W10.alloc (.cells #[.slice A_10 n_10 c_10, .slice B_10 m_10 d_10, .int .i64 (addN l0 k0 a0 l1)] 31) := ⟨_, rfl⟩
  have b11 : Below W10.heap.size W10 W11 := by rw [hW11]; exact (Below.refl _ _).alloc (Nat.le_refl _) _
  have z11 : W10.heap.size < W11.heap.size := by rw [hW11]; simp
  have X11 : Bx W11 W10.heap.size (.slice A_10 n_10 c_10) (.slice B_10 m_10 d_10) (.int .i64 (addN l0 k0 a0 l1)) := by rw [hW11]; exact Bx.new _ _ _ _ _
  have HW11 := Lib.hid hW11; clear hW11
  replace o5 := o5.below b11 (by omega)
  replace o7 := o7.below b11 (by omega)
  replace o9 := o9.below b11 (by omega)
  replace o10 := o10.below b11 (by omega)
  replace X1 := X1.below b11 (by omega)
  replace X6 := X6.below b11 (by omega)
  replace X8 := X8.below b11 (by omega)
  replace B := bnext B b11
  go_wp2_with fail
  rw [← HW11.out]
  clear HW11
  clear xa1 xb1 xc1 xa6 xb6 xc6 xa8 xb8 xc8 y11_1 y11_6 y11_8
  refine (L_eqHash_same _ _ _ _ _ _ _ _ _ _ _ _ _ _ _ _ o10.ints.rd o10.bytes.rd o5.ints.rd o5.bytes.rd).mono ?_
  rintro e W12 ⟨rfl, b12⟩
  have s12 := b12.size
  replace o5 := o5.below b12 (by omega)
  replace o7 := o7.below b12 (by omega)
  replace o9 := o9.below b12 (by omega)
  replace o10 := o10.below b12 (by omega)
  replace X1 := X1.below b12 (by omega)
  replace X6 := X6.below b12 (by omega)
  replace X8 := X8.below b12 (by omega)
  replace X11 := X11.below b12 (by omega)
  replace B := bnext B b12
  obtain ⟨xa1, xb1, xc1⟩ := id X1
  obtain ⟨xa6, xb6, xc6⟩ := id X6
  obtain ⟨xa8, xb8, xc8⟩ := id X8
  obtain ⟨xa11, xb11, xc11⟩ := id X11
  go_wp2_with fail
  clear xa1 xb1 xc1 xa6 xb6 xc6 xa8 xb8 xc8 xa11 xb11 xc11
  obtain ⟨ea0, ea1, ea2⟩ := id X1; obtain ⟨eb0, eb1, eb2⟩ := id X8
  have ga : w.heap.size < W12.heap.size := by omega
  have gb : W7.heap.size < W12.heap.size := by omega
  have BD := bdrew B
  have rA := w0.below BD (Nat.le_refl _); have rB := y0.below BD (Nat.le_refl _)
  have oD := o7.below (bdrew (Below.refl _ W12)) (by omega)
  have hXX : W7.heap.size ≤ W12.drew.heap.size := by show _ ≤ W12.heap.size; omega
  go_region_held3 (fun w' => w'.cell? ⟨w.heap.size, 0, none⟩ = some (.slice A0 n0 c0) ∧ w'.cell? ⟨w.heap.size, 1, none⟩ = some (.slice B0 m0 d0) ∧ w'.cell? ⟨w.heap.size, 2, none⟩ = some (.int .i64 a0) ∧ w'.cell? ⟨W7.heap.size, 0, none⟩ = some (.slice A_7 n_7 c_7) ∧ w'.cell? ⟨W7.heap.size, 1, none⟩ = some (.slice B_7 m_7 d_7) ∧ w'.cell? ⟨W7.heap.size, 2, none⟩ = some (.int .i64 a0))
    (first | exact ⟨ea0, ea1, ea2, eb0, eb1, eb2⟩ | exact ⟨fa0, fa1, fa2, fb0, fb1, fb2⟩ | exact ⟨ua0, ua1, ua2, ub0, ub1, ub2⟩)
    (first
      | (go_at_call 12; refine (L_toHash _ _ _ _ _ _ l0 k0 a0 _ rA rB hs0).mono ?_; rintro e W13 ⟨A_13, n_13, c_13, B_13, m_13, d_13, rfl, o13, b13⟩; have fa0 := (b13.cell (p := ⟨w.heap.size, 0, none⟩) ga).trans ea0; have fa1 := (b13.cell (p := ⟨w.heap.size, 1, none⟩) ga).trans ea1; have fa2 := (b13.cell (p := ⟨w.heap.size, 2, none⟩) ga).trans ea2; have fb0 := (b13.cell (p := ⟨W7.heap.size, 0, none⟩) gb).trans eb0; have fb1 := (b13.cell (p := ⟨W7.heap.size, 1, none⟩) gb).trans eb1; have fb2 := (b13.cell (p := ⟨W7.heap.size, 2, none⟩) gb).trans eb2; have oX := oD.below b13 hXX; have ja := Nat.lt_of_lt_of_le ga b13.size; have jb := Nat.lt_of_lt_of_le gb b13.size)
      | (go_at_call 14; refine (L_eqHash_same _ _ _ _ _ _ _ _ _ _ _ _ _ _ _ _ oX.ints.rd oX.bytes.rd o13.ints.rd o13.bytes.rd).mono ?_; rintro e W14 ⟨rfl, b14⟩; have ua0 := (b14.cell (p := ⟨w.heap.size, 0, none⟩) ja).trans fa0; have ua1 := (b14.cell (p := ⟨w.heap.size, 1, none⟩) ja).trans fa1; have ua2 := (b14.cell (p := ⟨w.heap.size, 2, none⟩) ja).trans fa2; have ub0 := (b14.cell (p := ⟨W7.heap.size, 0, none⟩) jb).trans fb0; have ub1 := (b14.cell (p := ⟨W7.heap.size, 1, none⟩) jb).trans fb1; have ub2 := (b14.cell (p := ⟨W7.heap.size, 2, none⟩) jb).trans fb2))
  have bt : Below W12.heap.size W12 W14 := bnext (bnext (bdrew (Below.refl _ _)) b13) b14
  have s14 := bt.size
  clear ea0 ea1 ea2 eb0 eb1 eb2 fa0 fa1 fa2 fb0 fb1 fb2 ua0 ua1 ua2 ub0 ub1 ub2 oX oD BD rA rB ga gb ja jb hXX o13 b13 b14
  replace o5 := o5.below bt (by omega)
  replace o7 := o7.below bt (by omega)
  replace o9 := o9.below bt (by omega)
  replace o10 := o10.below bt (by omega)
  replace X1 := X1.below bt (by omega)
  replace X6 := X6.below bt (by omega)
  replace X8 := X8.below bt (by omega)
  replace X11 := X11.below bt (by omega)
  replace B := bnext B bt
  clear bt
  obtain ⟨xa1, xb1, xc1⟩ := id X1
  obtain ⟨xa6, xb6, xc6⟩ := id X6
  obtain ⟨xa8, xb8, xc8⟩ := id X8
  obtain ⟨xa11, xb11, xc11⟩ := id X11
  go_wp2_with fail
  clear xa1 xb1 xc1 xa6 xb6 xc6 xa8 xb8 xc8 xa11 xb11 xc11
  refine (L_toByteS _ _ _ l1 _ (w1.below B (Nat.le_refl _)) hn1).mono ?_
  rintro e W15 ⟨A_15, n_15, c_15, rfl, o15, b15⟩
  have s15 := b15.size
  replace o5 := o5.below b15 (by omega)
  replace o7 := o7.below b15 (by omega)
  replace o9 := o9.below b15 (by omega)
  replace o10 := o10.below b15 (by omega)
  replace X1 := X1.below b15 (by omega)
  replace X6 := X6.below b15 (by omega)
  replace X8 := X8.below b15 (by omega)
  replace X11 := X11.below b15 (by omega)
  replace B := bnext B b15
  have hn_15 : n_15 ≤ 1048576 := by have h1 := o15.rd.len; rw [bv_len] at h1; have h2 := w1.len; rw [bv_len] at h2; omega
  obtain ⟨xa1, xb1, xc1⟩ := id X1
  obtain ⟨xa6, xb6, xc6⟩ := id X6
  obtain ⟨xa8, xb8, xc8⟩ := id X8
  obtain ⟨xa11, xb11, xc11⟩ := id X11
  go_wp2_with fail
  clear xa1 xb1 xc1 xa6 xb6 xc6 xa8 xb8 xc8 xa11 xb11 xc11
  refine (L_eqByteS_same _ _ _ _ _ _ _ _ o9.rd o15.rd).mono ?_
  rintro e W16 ⟨rfl, b16⟩
  have s16 := b16.size
  replace o5 := o5.below b16 (by omega)
  replace o7 := o7.below b16 (by omega)
  replace o9 := o9.below b16 (by omega)
  replace o10 := o10.below b16 (by omega)
  replace o15 := o15.below b16 (by omega)
  replace X1 := X1.below b16 (by omega)
  replace X6 := X6.below b16 (by omega)
  replace X8 := X8.below b16 (by omega)
  replace X11 := X11.below b16 (by omega)
  replace B := bnext B b16
  clear o15
  obtain ⟨xa1, xb1, xc1⟩ := id X1
  obtain ⟨xa6, xb6, xc6⟩ := id X6
  obtain ⟨xa8, xb8, xc8⟩ := id X8
  obtain ⟨xa11, xb11, xc11⟩ := id X11
  go_wp2_with fail
  clear xa1 xb1 xc1 xa6 xb6 xc6 xa8 xb8 xc8 xa11 xb11 xc11
  refine (L_markHash _ _ _ _ _ _ _ _ _ _ _ 1 _ o7 (by omega) (by omega)).mono ?_
  rintro e W17 ⟨rfl, p7, g17⟩
  replace B := grown2_next B g17 o7.rng (by omega)
  replace o5 := o5.grown2 g17 o7.rng (by omega)
  replace o9 := o9.grown2 g17 o7.rng (by omega)
  replace o10 := o10.grown2 g17 o7.rng (by omega)
  replace X1 := X1.grown2 g17 o7.rng (by omega)
  replace X6 := X6.grown2 g17 o7.rng (by omega)
  replace X8 := X8.grown2 g17 o7.rng (by omega)
  replace X11 := X11.grown2 g17 o7.rng (by omega)
  clear o7; have o7 := p7; clear p7; have s17 := g17.size
  obtain ⟨xa1, xb1, xc1⟩ := id X1
  obtain ⟨xa6, xb6, xc6⟩ := id X6
  obtain ⟨xa8, xb8, xc8⟩ := id X8
  obtain ⟨xa11, xb11, xc11⟩ := id X11
  go_wp2_with fail
  clear xa1 xb1 xc1 xa6 xb6 xc6 xa8 xb8 xc8 xa11 xb11 xc11
  refine (L_markByteS _ _ _ _ _ _ (1 + n_7 + m_7) _ o9 (by omega)).mono ?_
  rintro e W18 ⟨rfl, p9, g18'⟩
  have g18 := grown2_of g18'; clear g18'
  replace B := grown2_next B g18 (rng_one o9.rng) (by omega)
  replace o5 := o5.grown2 g18 (rng_one o9.rng) (by omega)
  replace o7 := o7.grown2 g18 (rng_one o9.rng) (by omega)
  replace o10 := o10.grown2 g18 (rng_one o9.rng) (by omega)
  replace X1 := X1.grown2 g18 (rng_one o9.rng) (by omega)
  replace X6 := X6.grown2 g18 (rng_one o9.rng) (by omega)
  replace X8 := X8.grown2 g18 (rng_one o9.rng) (by omega)
  replace X11 := X11.grown2 g18 (rng_one o9.rng) (by omega)
  clear o9; have o9 := p9; clear p9; have s18 := g18.size
  obtain ⟨xa1, xb1, xc1⟩ := id X1
  obtain ⟨xa6, xb6, xc6⟩ := id X6
  obtain ⟨xa8, xb8, xc8⟩ := id X8
  obtain ⟨xa11, xb11, xc11⟩ := id X11
  go_wp2_with fail
  clear xa1 xb1 xc1 xa6 xb6 xc6 xa8 xb8 xc8 xa11 xb11 xc11
  refine (L_eqHash_same _ _ _ _ _ _ _ _ _ _ _ _ _ _ _ _ o10.ints.rd o10.bytes.rd o5.ints.rd o5.bytes.rd).mono ?_
  rintro e W19 ⟨rfl, b19⟩
  have s19 := b19.size
  replace o5 := o5.below b19 (by omega)
  replace o7 := o7.below b19 (by omega)
  replace o9 := o9.below b19 (by omega)
  replace o10 := o10.below b19 (by omega)
  replace X1 := X1.below b19 (by omega)
  replace X6 := X6.below b19 (by omega)
  replace X8 := X8.below b19 (by omega)
  replace X11 := X11.below b19 (by omega)
  replace B := bnext B b19
  clear o7
  clear o9
  clear X8
  obtain ⟨xa1, xb1, xc1⟩ := id X1
  obtain ⟨xa6, xb6, xc6⟩ := id X6
  obtain ⟨xa11, xb11, xc11⟩ := id X11
  go_wp2_with fail
  clear xa1 xb1 xc1 xa6 xb6 xc6 xa11 xb11 xc11
  refine (L_markHash _ _ _ _ _ _ _ _ _ _ _ 1 _ o10 (by omega) (by omega)).mono ?_
  rintro e W20 ⟨rfl, p10, g20⟩
  replace B := grown2_next B g20 o10.rng (by omega)
  replace o5 := o5.grown2 g20 o10.rng (by omega)
  replace X1 := X1.grown2 g20 o10.rng (by omega)
  replace X6 := X6.grown2 g20 o10.rng (by omega)
  replace X11 := X11.grown2 g20 o10.rng (by omega)
  clear o10; have o10 := p10; clear p10; have s20 := g20.size
  obtain ⟨xa1, xb1, xc1⟩ := id X1
  obtain ⟨xa6, xb6, xc6⟩ := id X6
  obtain ⟨xa11, xb11, xc11⟩ := id X11
  go_wp2_with fail
  clear xa1 xb1 xc1 xa6 xb6 xc6 xa11 xb11 xc11
  refine (L_heldHash _ _ _ _ _ _ _ 1 _ o10.ints.rd o10.bytes.rd (by omega)).mono ?_
  rintro e W21 ⟨rfl, b21⟩
  have s21 := b21.size
  replace o5 := o5.below b21 (by omega)
  replace o10 := o10.below b21 (by omega)
  replace X1 := X1.below b21 (by omega)
  replace X6 := X6.below b21 (by omega)
  replace X11 := X11.below b21 (by omega)
  replace B := bnext B b21
  obtain ⟨xa1, xb1, xc1⟩ := id X1
  obtain ⟨xa6, xb6, xc6⟩ := id X6
  obtain ⟨xa11, xb11, xc11⟩ := id X11
  go_wp2_with fail
  clear xa1 xb1 xc1 xa6 xb6 xc6 xa11 xb11 xc11
  refine (L_toHash _ _ _ _ _ _ l0 k0 a0 _ (w0.below B (Nat.le_refl _)) (y0.below B (Nat.le_refl _)) (by omega)).mono ?_
  rintro e W22 ⟨A_22, n_22, c_22, B_22, m_22, d_22, rfl, o22, b22⟩
  have s22 := b22.size
  replace o5 := o5.below b22 (by omega)
  replace o10 := o10.below b22 (by omega)
  replace X1 := X1.below b22 (by omega)
  replace X6 := X6.below b22 (by omega)
  replace X11 := X11.below b22 (by omega)
  replace B := bnext B b22
  have hn_22 : n_22 ≤ 1048576 := by have h1 := o22.ints.rd.len; rw [iv_len] at h1; have h2 := w0.len; rw [iv_len] at h2; omega
  have hm_22 : m_22 ≤ 1048576 := by have h1 := o22.bytes.rd.len; rw [bv_len] at h1; have h2 := y0.len; rw [bv_len] at h2; omega
  obtain ⟨xa1, xb1, xc1⟩ := id X1
  obtain ⟨xa6, xb6, xc6⟩ := id X6
  obtain ⟨xa11, xb11, xc11⟩ := id X11
  go_wp2_with fail
  clear xa1 xb1 xc1 xa6 xb6 xc6 xa11 xb11 xc11
  refine (L_toByteS _ _ _ l1 _ (w1.below B (Nat.le_refl _)) hn1).mono ?_
  rintro e W23 ⟨A_23, n_23, c_23, rfl, o23, b23⟩
  have s23 := b23.size
  replace o5 := o5.below b23 (by omega)
  replace o10 := o10.below b23 (by omega)
  replace o22 := o22.below b23 (by omega)
  replace X1 := X1.below b23 (by omega)
  replace X6 := X6.below b23 (by omega)
  replace X11 := X11.below b23 (by omega)
  replace B := bnext B b23
  have hn_23 : n_23 ≤ 1048576 := by have h1 := o23.rd.len; rw [bv_len] at h1; have h2 := w1.len; rw [bv_len] at h2; omega
  obtain ⟨xa1, xb1, xc1⟩ := id X1
  obtain ⟨xa6, xb6, xc6⟩ := id X6
  obtain ⟨xa11, xb11, xc11⟩ := id X11
  go_wp2_with fail
  clear xa1 xb1 xc1 xa6 xb6 xc6 xa11 xb11 xc11
  refine (I_HashAdd _ _ _ _ _ _ l0 k0 a0 _ _ _ l1 _ o22.ints.rd o22.bytes.rd o23.rd (by omega) (by omega) (by omega)).mono ?_
  rintro e W24 ⟨A_24, n_24, c_24, B_24, m_24, d_24, rfl, o24, b24⟩
  have s24 := b24.size
  replace o5 := o5.below b24 (by omega)
  replace o10 := o10.below b24 (by omega)
  replace o22 := o22.below b24 (by omega)
  replace o23 := o23.below b24 (by omega)
  replace X1 := X1.below b24 (by omega)
  replace X6 := X6.below b24 (by omega)
  replace X11 := X11.below b24 (by omega)
  replace B := bnext B b24
  have hn_24 : n_24 ≤ 1048576 := by have h1 := o24.ints.rd.len; rw [iv_len] at h1; have h2 := addW_len l0 k0 a0 l1; have h3 := w0.len; rw [iv_len] at h3; omega
  have hm_24 : m_24 ≤ 1048576 := by have h1 := o24.bytes.rd.len; rw [bv_len] at h1; have h2 := addH_le l0 k0 a0 l1 (by have h3 := y0.len; rw [bv_len] at h3; omega); omega
  clear o22
  clear o23
  obtain ⟨xa1, xb1, xc1⟩ := id X1
  obtain ⟨xa6, xb6, xc6⟩ := id X6
  obtain ⟨xa11, xb11, xc11⟩ := id X11
  have y25_1 : w.heap.size < W24.heap.size := by omega
  have y25_6 : W5.heap.size < W24.heap.size := by omega
  have y25_11 : W10.heap.size < W24.heap.size := by omega
  obtain ⟨W25, hW25⟩ : ∃ V, V = W24.alloc (.cells #[.slice A_24 n_24 c_24, .slice B_24 m_24 d_24, .int .i64 (addN l0 k0 a0 l1)] 31) := ⟨_, rfl⟩
  have b25 : Below W24.heap.size W24 W25 := by rw [hW25]; exact (Below.refl _ _).alloc (Nat.le_refl _) _
  have z25 : W24.heap.size < W25.heap.size := by rw [hW25]; simp
  have X25 : Bx W25 W24.heap.size (.slice A_24 n_24 c_24) (.slice B_24 m_24 d_24) (.int .i64 (addN l0 k0 a0 l1)) := by rw [hW25]; exact Bx.new _ _ _ _ _
  have HW25 := Lib.hid hW25; clear hW25
  replace o5 := o5.below b25 (by omega)
  replace o10 := o10.below b25 (by omega)
  replace o24 := o24.below b25 (by omega)
  replace X1 := X1.below b25 (by omega)
  replace X6 := X6.below b25 (by omega)
  replace X11 := X11.below b25 (by omega)
  replace B := bnext B b25
  go_wp2_with fail
  rw [← HW25.out]
  clear HW25
  clear xa1 xb1 xc1 xa6 xb6 xc6 xa11 xb11 xc11 y25_1 y25_6 y25_11
  refine (L_eqHash_same _ _ _ _ _ _ _ _ _ _ _ _ _ _ _ _ o24.ints.rd o24.bytes.rd o5.ints.rd o5.bytes.rd).mono ?_
  rintro e W26 ⟨rfl, b26⟩
  have s26 := b26.size
  replace o5 := o5.below b26 (by omega)
  replace o10 := o10.below b26 (by omega)
  replace o24 := o24.below b26 (by omega)
  replace X1 := X1.below b26 (by omega)
  replace X6 := X6.below b26 (by omega)
  replace X11 := X11.below b26 (by omega)
  replace X25 := X25.below b26 (by omega)
  replace B := bnext B b26
  obtain ⟨xa1, xb1, xc1⟩ := id X1
  obtain ⟨xa6, xb6, xc6⟩ := id X6
  obtain ⟨xa11, xb11, xc11⟩ := id X11
  obtain ⟨xa25, xb25, xc25⟩ := id X25
  go_wp2_with fail
  clear xa1 xb1 xc1 xa6 xb6 xc6 xa11 xb11 xc11 xa25 xb25 xc25
  refine (L_heldHash _ _ _ _ _ _ _ 1 _ o10.ints.rd o10.bytes.rd (by omega)).mono ?_
  rintro e W27 ⟨rfl, b27⟩
  have s27 := b27.size
  replace o5 := o5.below b27 (by omega)
  replace o10 := o10.below b27 (by omega)
  replace o24 := o24.below b27 (by omega)
  replace X1 := X1.below b27 (by omega)
  replace X6 := X6.below b27 (by omega)
  replace X11 := X11.below b27 (by omega)
  replace X25 := X25.below b27 (by omega)
  replace B := bnext B b27
  obtain ⟨xa1, xb1, xc1⟩ := id X1
  obtain ⟨xa6, xb6, xc6⟩ := id X6
  obtain ⟨xa11, xb11, xc11⟩ := id X11
  obtain ⟨xa25, xb25, xc25⟩ := id X25
  go_wp2_with fail
  clear xa1 xb1 xc1 xa6 xb6 xc6 xa11 xb11 xc11 xa25 xb25 xc25
  go_ret
  exact ⟨rfl, B⟩

theorem fnExactHashAdd_cellsH : Try.prog.cellsOf 29 = 3 := by kernel_rfl
set_option maxRecDepth 100000 in
theorem fnExactHashAdd_lifted (os : Os) (started : os.Started) (H : Type) (enc : TypeId × Value → H) :
    ReturnsInHanded {} Try.checked os 4 .any (Rows.fnExactHashAddSpec.pre6 enc Try.prog Try.f4 Rows.fnExactHashAddRow.domain false) (Rows.fnExactHashAddSpec.post enc Try.prog Try.f4 false true false false) := by
  refine returnsInHanded_of_change (C := Try.checked) own started (by kernel_rfl) Try.func4
    (ChangeSpec.witness6 (enc := enc) (C := Try.checked) false ⟨#[], #[.agg #[.slice none 0 0, .slice none 0 0, .int .i64 0], .slice none 0 0], []⟩ 8 (by kernel_rfl) (by kernel_rfl) (by kernel_rfl) (by kernel_rfl)) ?_
  intro W base args ds gs before hval0 hW hcnd _
  have hval : ∀ (j : Nat) t v, Try.f4.params[j]? = some t → args[j]? = some v → Value.okWide Try.prog W .any base t v := hval0
  have hW' := hW
  obtain ⟨p, q, hA0, hV, rfl, hfz, hnd⟩ := hW
  have hA : DataW.TrodAll enc Try.prog W 0 (fun _ => true) true Try.f4.params.toList args.toList ds p := hA0
  rw [Try.params4] at hA hval
  obtain ⟨v0, vs0, d0, ds0, p0, q0, hargs, rfl, rfl, h0, r0⟩ := trodAll_cons hA
  obtain ⟨v1, vs1, d1, ds1, p1, q1, rfl, rfl, rfl, h1, r1⟩ := trodAll_cons r0
  obtain ⟨rfl, rfl, rfl⟩ := trodAll_nil r1
  obtain rfl : args = #[v0, v1] := by cases args; simp_all
  obtain ⟨rfl, rfl⟩ := trodVars_none hV
  have k0 := h0
  have lt0 : ∀ x ∈ p0, x.block < W.heap.size := by obtain ⟨m, hm⟩ := k0; exact DataW.trod_lt m _ _ _ hm
  obtain ⟨u0, u'0, t0, y0, y'0, s0, m0, rfl, rfl, rfl, g0, g'0, j0⟩ := Joins.open_agg3 Try.underlying29 (by kernel_rfl) fnExactHashAdd_cellsH (hval 0 29 v0 rfl rfl) h0
  obtain ⟨A0, n0, c0, e0⟩ := Joins.slice_form Try.underlying27 g0
  obtain ⟨B0, m'0, d'0, e'0⟩ := Joins.slice_form Try.underlying22 g'0
  simp only [List.cons.injEq, and_true] at e0 e'0
  subst e0; subst e'0
  obtain ⟨l0, w0, x0⟩ := open_nums Try.underlying27 Try.underlying3 (by kernel_rfl) g0
  obtain ⟨k'0, y''0⟩ := open_bytes Try.underlying22 Try.underlying5 (by kernel_rfl) g'0
  obtain ⟨a0, e''0, es0, z0⟩ := DataW.trod_int Try.underlying3 j0
  simp only [List.cons.injEq, and_true] at e''0
  subst e''0
  have k1 := h1
  have lt1 : ∀ x ∈ p1, x.block < W.heap.size := by obtain ⟨m, hm⟩ := k1; exact DataW.trod_lt m _ _ _ hm
  obtain ⟨A1, n1, c1, rfl⟩ := okWide_slice Try.underlying22 (hval 1 22 v1 rfl rfl)
  obtain ⟨l1, w1⟩ : ∃ l, Rd W A1 n1 c1 (bv l) := by
    obtain ⟨fuel, hf⟩ := h1
    exact open_bytes Try.underlying22 Try.underlying5 (by kernel_rfl) (by simpa [Value.cells] using hf)
  clear hA0 hval0
  refine (fnExactHashAdd_walk A0 n0 c0 l0 B0 m'0 d'0 k'0 a0 A1 n1 c1 l1 W w0 x0 y''0 (bounds64 z0) w1).mono fun e W' ⟨he, bel⟩ => ?_
  subst he
  exact ⟨_, rfl, _, _, _, [], _, [], hW', trodAll_mk1 (shut_bool Try.underlying4 _), (trodAll_cons_mk (Below.trod laidOut (by kernel_rfl) (of_decide_eq_true (by kernel_rfl)) k0 bel lt0) (trodAll_cons_mk (Below.trod laidOut (by kernel_rfl) (of_decide_eq_true (by kernel_rfl)) k1 bel lt1) trodAll_mk0)), rfl, bel.frame _, fun h => by cases h⟩

theorem fnExactHashAdd_over : Rows.fnExactHashAddRow.holds Try.pinned (OpenSpec.ofChange Rows.fnExactHashAddSpec) :=
  OpenClaim.holds_of_wide 4 Try.f4 rfl rfl rfl rfl rfl rfl rfl ⟨rfl, rfl, rfl, rfl, rfl⟩ rfl rfl rfl rfl rfl (by kernel_rfl) Try.func4 (by kernel_rfl)
    (of_decide_eq_true (by kernel_rfl)) (by unfold Func.isWrapper; first | (rw [if_pos (by decide +kernel)]; kernel_rfl) | (rw [if_neg (by decide +kernel)]; exact ⟨rfl, rfl⟩))
    (fun os started H enc _ => fnExactHashAdd_lifted os started H enc)

/-- The statement. -/
theorem fnExactHashAdd_proved : Rows.FnExactHashAddSaid := fnExactHashAdd_over
#print axioms fnExactHashAdd_proved
end Go.Proofs.Ytnngiampfdjlfaa
