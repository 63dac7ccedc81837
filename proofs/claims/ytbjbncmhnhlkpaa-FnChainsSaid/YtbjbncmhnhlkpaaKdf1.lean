/- Contracts of Expand, of the reference and of the program: for every pair of slices and every number. -/
import Derived.Test.YtbjbncmhnhlkpaaMac3
import Derived.Test.YtbjbncmhnhlkpaaMac4
import Derived.Test.YtbjbncmhnhlkpaaCut
namespace Go.Proofs.Ytbjbncmhnhlkpaa
open Go.ChangeShapes Go.WideShapes Go.ChangeAt Go.RowKit
set_option linter.unusedVariables false

theorem rd_num (W : World) (t : TypeId) (j : Nat) (h : (UInt8.ofNat (j + 1)).toNat = j + 1) : Rd (W.alloc (.cells #[.int .u8 ((j : Int) + 1)] t)) (some ⟨W.heap.size, 0, none⟩) 1 1 (bv [UInt8.ofNat (j + 1)]) := by
  have h0 := rd_one W t (.int .u8 ((j : Int) + 1))
  have e : bv [UInt8.ofNat (j + 1)] = [.int .u8 ((j : Int) + 1)] := by
    show [Value.int .u8 (((UInt8.ofNat (j + 1)).toNat : Nat) : Int)] = _
    rw [h]
    rfl
  rw [e]
  exact h0
theorem rd_three (w : World) (t : TypeId) (u v x : Value) : Rd (w.alloc (.cells #[u, v, x] t)) (some ⟨w.heap.size, 0, none⟩) 3 3 [u, v, x] :=
  own_rd (World.ownsRow_lit w #[u, v, x] 3 (Nat.le_refl _) (by unfold maxLen; omega) rfl)
/-- Three parts, laid by the caller. -/
theorem I_joined3 (A B D : Option Addr) (n c m d p q : Nat) (l k r : List UInt8) (w : World) (t : TypeId) (h1 : Rd w A n c (bv l)) (h2 : Rd w B m d (bv k)) (h3 : Rd w D p q (bv r)) (hn : n ≤ 4000000) (hm : m ≤ 4000000) (hp : p ≤ 4000000) :
    Calls Try.prog 59 #[.slice (some ⟨w.heap.size, 0, none⟩) 3 3] (w.alloc (.cells #[.slice A n c, .slice B m d, .slice D p q] t)) fun e w' => Out 5 w (bv (l ++ k ++ r)) e w' := by
  have hr := rd_three w t (.slice A n c) (.slice B m d) (.slice D p q)
  have hv : ∀ (j : Nat) (x : List UInt8), [l, k, r][j]? = some x → ∃ A' m' d', [Value.slice A n c, Value.slice B m d, Value.slice D p q][j]? = some (Value.slice A' m' d') ∧ Rd (w.alloc (.cells #[.slice A n c, .slice B m d, .slice D p q] t)) A' m' d' (bv x) ∧ m' ≤ 4000000 := by
    intro j x hx
    match j, hx with
    | 0, hx =>
      injection hx with hx
      subst hx
      exact ⟨A, n, c, rfl, h1.alloc _, hn⟩
    | 1, hx =>
      injection hx with hx
      subst hx
      exact ⟨B, m, d, rfl, h2.alloc _, hm⟩
    | 2, hx =>
      injection hx with hx
      subst hx
      exact ⟨D, p, q, rfl, h3.alloc _, hp⟩
  have C := I_joined _ 3 3 _ [l, k, r] _ hr (by omega) rfl hv
  refine C.mono ?_
  rintro e w' ⟨A', n', c', he, ho, hb⟩
  have hs : w.heap.size ≤ (w.alloc (.cells #[.slice A n c, .slice B m d, .slice D p q] t)).heap.size := by simp
  have hf : [l, k, r].flatten = l ++ k ++ r := by simp
  rw [hf] at ho
  exact ⟨A', n', c', he, ho.less hs, bnext (balloc (Below.refl w.heap.size w) _) hb⟩

set_option maxHeartbeats 1000000 in
theorem S_Expand_no (A B : Option Addr) (n c m d : Nat) (k b : List UInt8) (q : Int) (w : World) (h : Rd w A n c (bv k)) (g : Rd w B m d (bv b)) (hok : ¬ expOk k b q) :
    Calls Try.prog 15 #[.slice A n c, .slice B m d, .int .i64 q] w fun e w' => Out2 5 w (bv []) false e w' := by
  have hkl : k.length = n := by have := h.len; rwa [bv_len] at this
  have hml : b.length = m := by have := g.len; rwa [bv_len] at this
  have hbd := h.bnd
  have hbd2 := g.bnd
  by_cases hi : 0 ≤ q ∧ q ≤ 8160
  rotate_left
  · have C := Lib.hid (S_in_no q 0 8160 w hi)
    clear hkl hml hi hok
    go_enter Try.func15, Try.ntmps15
    go_wp2_with fail
    refine C.out.mono ?_
    rintro e w' ⟨rfl, rfl⟩
    go_wp2_with fail
    exact bodyPost_ret (v := .tuple #[.slice (some ⟨w.heap.size, 0, none⟩) 0 0, .bool false]) (by simp [results, Try.results15, go_sem]) rfl ⟨_, _, _, rfl, Ow.of_own (own_empty w _), balloc (Below.refl _ _) _⟩
  have C := Lib.hid (S_in_yes q 0 8160 w hi)
  by_cases hm : m ≤ 100
  rotate_left
  · have hm' : (100 : Int) < (m : Int) := by omega
    clear hkl hml hi hok
    go_enter Try.func15, Try.ntmps15
    go_wp2_with fail
    refine C.out.mono ?_
    rintro e w' ⟨rfl, rfl⟩
    go_wp2_with fail
    exact bodyPost_ret (v := .tuple #[.slice (some ⟨w.heap.size, 0, none⟩) 0 0, .bool false]) (by simp [results, Try.results15, go_sem]) rfl ⟨_, _, _, rfl, Ow.of_own (own_empty w _), balloc (Below.refl _ _) _⟩
  have hm' : ¬ (100 : Int) < (m : Int) := by omega
  have hn' : (1048576 : Int) < (n : Int) := by
    refine Int.not_le.1 fun hn => hok ⟨hi, by omega, by omega⟩
  clear hkl hml hi hok
  go_enter Try.func15, Try.ntmps15
  go_wp2_with fail
  refine C.out.mono ?_
  rintro e w' ⟨rfl, rfl⟩
  go_wp2_with fail
  exact bodyPost_ret (v := .tuple #[.slice (some ⟨w.heap.size, 0, none⟩) 0 0, .bool false]) (by simp [results, Try.results15, go_sem]) rfl ⟨_, _, _, rfl, Ow.of_own (own_empty w _), balloc (Below.refl _ _) _⟩

set_option maxHeartbeats 2000000 in
theorem S_Expand (A B : Option Addr) (n c m d : Nat) (k b : List UInt8) (q : Int) (w : World) (h : Rd w A n c (bv k)) (g : Rd w B m d (bv b)) :
    Calls Try.prog 15 #[.slice A n c, .slice B m d, .int .i64 q] w fun e w' => Out2 5 w (bv (expandL k b q)) (expB k b q) e w' := by
  have hkl : k.length = n := by have := h.len; rwa [bv_len] at this
  have hml : b.length = m := by have := g.len; rwa [bv_len] at this
  have hbd := h.bnd
  have hbd2 := g.bnd
  by_cases hok : expOk k b q
  rotate_left
  · have HS0 := Lib.hid (show expandL k b q = [] by rw [expandL, if_neg hok])
    have HS1 := Lib.hid (show expB k b q = false from decide_eq_false hok)
    rw [HS0.out, HS1.out]
    exact S_Expand_no A B n c m d k b q w h g hok
  have HS0 := Lib.hid (show expandL k b q = cutN (expF k b) q.toNat by rw [expandL, if_pos hok])
  have HS1 := Lib.hid (show expB k b q = true from decide_eq_true hok)
  rw [HS0.out, HS1.out]
  obtain ⟨⟨hq0, hq1⟩, hm, hn⟩ := hok
  obtain ⟨N, rfl⟩ := Int.eq_ofNat_of_zero_le hq0
  rw [Int.toNat_natCast]
  have C := Lib.hid (S_in_yes (N : Int) 0 8160 w ⟨hq0, hq1⟩)
  have hm' : ¬ (100 : Int) < (m : Int) := by omega
  have hn' : ¬ (1048576 : Int) < (n : Int) := by omega
  have HL := Lib.hid (fun i => expT_len k b i hn hm)
  have HLE := Lib.hid (fun i => expT_le k b i)
  clear hkl hml hq0 HS0 HS1
  go_enter Try.func15, Try.ntmps15
  go_wp2_with fail
  refine C.out.mono ?_
  rintro e w' ⟨rfl, rfl⟩
  go_wp2_with fail
  go_loopw [8, 9, 10] (fun v u i wr => ∃ (j M c1 p c2 g1 : Nat) (A2 : Option Addr), v = .slice (some ⟨g1, 0, none⟩) M c1 ∧ u = .slice A2 p c2 ∧ i = .int .i64 ((j + 1 : Nat) : Int) ∧ Hid (M = 32 * j) ∧ M ≤ 10000 ∧ j ≤ (N + 31) / 32 ∧ p ≤ 32 ∧
      Hid (Ow wr 5 (some ⟨g1, 0, none⟩) M c1 w.heap.size wr.heap.size (bv (blk (expF k b) j))) ∧ Hid (Rd wr A2 p c2 (bv (expT k b j))) ∧ Below w.heap.size w wr)
    (fun v _ _ _ => N + 32 - lenV v)
  case atStart =>
    have e1 := (own_empty w 5).alloc (.cells #[] 5)
    have e2 := own_rd (own_empty (w.alloc (.cells #[] 5)) 5)
    rw [show (w.alloc (.cells #[] 5)).heap.size = w.heap.size + 1 by simp] at e2
    exact ⟨0, 0, 0, 0, 0, _, _, rfl, rfl, rfl, rfl, by omega, by omega, by omega, Ow.of_own e1, e2, balloc (balloc (Below.refl _ _) _) _⟩
  case round =>
    obtain ⟨j, M, c1, p, c2, g1, A2, rfl, rfl, rfl, HM, hM, hj, hp, HO, HT, hb⟩ := hrel
    have hOb := HO.out.rd.bnd
    have hTb := HT.out.bnd
    by_cases hlt : M < N
    · have hlt' : (M : Int) < (N : Int) := by omega
      have hj2 : j < (N + 31) / 32 := by have := HM.out; omega
      have hj3 : j ≤ 254 := by omega
      have HE := Lib.hid (own_empty wr 5)
      have ht1 := HT.out.alloc (.cells #[] 5)
      have gi := g.below hb (Nat.le_refl _)
      have q1 : 0 + p ≤ 70368744177664 := by omega
      have q2 : p + m ≤ 70368744177664 := by omega
      have q3 : p + m + 1 ≤ 70368744177664 := by omega
      have q0 : wr.heap.size ≤ (wr.alloc (.cells #[] 5)).heap.size := by simp
      have hx8 : IntKind.u8.wrap ((j : Int) + 1) = (j : Int) + 1 := by rw [IntKind.wrap_u8]; omega
      have hxu : (UInt8.ofNat (j + 1)).toNat = j + 1 := by simp; omega
      go_wp2_with (first
        | (at_builtin; refine append_bytes _ rfl _ _ rfl wr.heap.size _ _ _ _ rfl HI6 _ _ _ [UInt8.ofNat (j + 1)] rfl hr6 q3 z6 ?_; intro A5 c5 W5 HO5 hb5)
        | (at_builtin; refine append_bytes _ rfl _ _ rfl wr.heap.size _ _ _ _ rfl HO3 _ _ _ b rfl gi3 q2 z3 ?_; intro A4 c4 W4 HO4 hb4; have HI6 := Lib.hid (HO4.out.alloc (.cells #[.int .u8 ((j : Int) + 1)] 5)); have hr6 : Rd (W4.alloc (.cells #[.int .u8 ((j : Int) + 1)] 5)) (some ⟨W4.heap.size, 0, none⟩) 1 1 (bv [UInt8.ofNat (j + 1)]) := rd_num W4 _ _ hxu; have z6 := Nat.le_trans z3 (Nat.le_trans hb4.size (Below.alloc (Below.refl W4.heap.size W4) (Nat.le_refl _) (.cells #[.int .u8 ((j : Int) + 1)] 5)).size))
        | (at_builtin; refine append_bytes _ rfl _ _ rfl wr.heap.size _ _ _ [] rfl HE _ _ _ _ rfl ht1 q1 q0 ?_; intro A3 c3 W3 HO3 hb3; rw [Nat.zero_add, List.nil_append] at HO3; have z3 := Nat.le_trans q0 hb3.size; have b3 := (balloc (Below.refl wr.heap.size wr) (.cells #[] 5)).trans hb3; have gi3 := gi.below b3 (Nat.le_refl _)))
      have b5 := (b3.trans hb4).trans ((Below.alloc (Below.refl wr.heap.size W4) (Nat.le_trans z3 hb4.size) (.cells #[.int .u8 ((j : Int) + 1)] 5)).trans hb5)
      have r5 := own_rd HO5.out
      have HC := Lib.hid (S_Hmac A A5 n c _ c5 k _ W5 (h.below (bnext hb b5) (Nat.le_refl _)) r5)
      clear HO5 HO4 HO3 HE HI6 r5
      rw [show hmacL k (expT k b j ++ b ++ [UInt8.ofNat (j + 1)]) = expT k b (j + 1) from rfl] at HC
      refine HC.out.mono ?_
      rintro e W6 ⟨A6, n6, c6, rfl, o6, b6⟩
      have hn6 : 32 = n6 := by have h1 := o6.rd.len; rw [bv_len, HL.out j] at h1; exact h1
      subst hn6
      have b56 := bnext b5 b6
      have HO1 := Lib.hid (HO.out.below b56 (Nat.le_refl _)).own
      have r6 := o6.rd
      have z7 : w.heap.size ≤ W6.heap.size := by have h1 := hb.size; have h2 := b56.size; omega
      have q7 : M + 32 ≤ 70368744177664 := by omega
      clear HC
      go_wp2_with (at_builtin; refine append_bytes_g _ rfl _ _ rfl w.heap.size _ _ _ _ rfl HO1 _ _ _ _ rfl r6 q7 z7 ?_; intro A7 c7 W7 HO7 g7)
      obtain ⟨g7', cap7, hv7⟩ := Joins.ownsRow_form HO7.out (by omega)
      injection hv7 with e1 e2 e3
      subst e1
      have ho7 := Ow.of_own HO7.out
      have hng : ∀ x, (Value.slice (some ⟨g1, 0, none⟩) M c1).ownBlock = some x → w.heap.size ≤ x ∧ x < wr.heap.size := HO.out.rng
      have o8 := o6.grown g7 hng (.inr b5.size)
      have b8 : Below w.heap.size w W7 := hb.trans ((b56.mono hb.size).trans (grown_below g7 (fun x hx => (hng x hx).1) z7))
      go_roundw
      case rel => exact ⟨j + 1, M + 32, c7, 32, c6, g7', A6, rfl, rfl, by go_num, by have := HM.out; show _ = _; omega, by omega, by omega, by omega, ho7, o8.rd, b8⟩
      case measure => simp [lenV]; omega
    · have hlt' : ¬ (M : Int) < (N : Int) := by omega
      have hj2 : j = (N + 31) / 32 := by have := HM.out; omega
      have HS := Lib.hid (show cutN (expF k b) N = (blk (expF k b) j).take N by rw [cutN, hj2])
      have hC := HO.out.rd.take_ (m := N) (by omega)
      rw [bv_take] at hC
      have hNc : (N : Int) ≤ (c1 : Int) := by omega
      have HE := Lib.hid (own_empty wr 5)
      have hra := hC.alloc (.cells #[] 5)
      have q5 : 0 + N ≤ 70368744177664 := by omega
      have q6 : wr.heap.size ≤ (wr.alloc (.cells #[] 5)).heap.size := by simp
      go_wp2_with (at_builtin; refine append_bytes _ rfl _ _ rfl wr.heap.size _ _ _ [] rfl HE _ _ _ _ rfl hra q5 q6 ?_; intro A7 c7 W7 HO7 hb7)
      have ho7 := HO7.out
      rw [Nat.zero_add, List.nil_append] at ho7
      have b7 := (balloc (Below.refl wr.heap.size wr) _).trans hb7
      exact bodyPost_ret (v := .tuple #[.slice A7 N c7, .bool true]) (by simp [results, Try.results15, go_sem]) rfl (by rw [HS.out]; exact ⟨_, _, _, rfl, (Ow.of_own ho7).less hb.size, bnext hb b7⟩)

set_option maxHeartbeats 1000000 in
theorem I_Expand_no (A B : Option Addr) (n c m d : Nat) (k b : List UInt8) (q : Int) (w : World) (h : Rd w A n c (bv k)) (g : Rd w B m d (bv b)) (hok : ¬ expOk k b q) :
    Calls Try.prog 17 #[.slice A n c, .slice B m d, .int .i64 q] w fun e w' => Out2 5 w (bv []) false e w' := by
  have hkl : k.length = n := by have := h.len; rwa [bv_len] at this
  have hml : b.length = m := by have := g.len; rwa [bv_len] at this
  have hbd := h.bnd
  have hbd2 := g.bnd
  by_cases hi : 0 ≤ q ∧ q ≤ 8160
  rotate_left
  · have C := Lib.hid (I_in_no q 0 8160 w hi)
    clear hkl hml hi hok
    go_enter Try.func17, Try.ntmps17
    go_wp2_with fail
    refine C.out.mono ?_
    rintro e w' ⟨rfl, rfl⟩
    go_wp2_with fail
    exact bodyPost_ret (v := .tuple #[.slice none 0 0, .bool false]) (by simp [results, Try.results17, go_sem]) rfl ⟨_, _, _, rfl, Ow.nil_ _ _ _ _, Below.refl _ _⟩
  have C := Lib.hid (I_in_yes q 0 8160 w hi)
  by_cases hm : m ≤ 100
  rotate_left
  · have hm' : (100 : Int) < (m : Int) := by omega
    clear hkl hml hi hok
    go_enter Try.func17, Try.ntmps17
    go_wp2_with fail
    refine C.out.mono ?_
    rintro e w' ⟨rfl, rfl⟩
    go_wp2_with fail
    exact bodyPost_ret (v := .tuple #[.slice none 0 0, .bool false]) (by simp [results, Try.results17, go_sem]) rfl ⟨_, _, _, rfl, Ow.nil_ _ _ _ _, Below.refl _ _⟩
  have hm' : ¬ (100 : Int) < (m : Int) := by omega
  have hn' : (1048576 : Int) < (n : Int) := by
    refine Int.not_le.1 fun hn => hok ⟨hi, by omega, by omega⟩
  clear hkl hml hi hok
  go_enter Try.func17, Try.ntmps17
  go_wp2_with fail
  refine C.out.mono ?_
  rintro e w' ⟨rfl, rfl⟩
  go_wp2_with fail
  exact bodyPost_ret (v := .tuple #[.slice none 0 0, .bool false]) (by simp [results, Try.results17, go_sem]) rfl ⟨_, _, _, rfl, Ow.nil_ _ _ _ _, Below.refl _ _⟩

set_option maxHeartbeats 2000000 in
theorem I_Expand (A B : Option Addr) (n c m d : Nat) (k b : List UInt8) (q : Int) (w : World) (h : Rd w A n c (bv k)) (g : Rd w B m d (bv b)) :
    Calls Try.prog 17 #[.slice A n c, .slice B m d, .int .i64 q] w fun e w' => Out2 5 w (bv (expandL k b q)) (expB k b q) e w' := by
  have hkl : k.length = n := by have := h.len; rwa [bv_len] at this
  have hml : b.length = m := by have := g.len; rwa [bv_len] at this
  have hbd := h.bnd
  have hbd2 := g.bnd
  by_cases hok : expOk k b q
  rotate_left
  · have HS0 := Lib.hid (show expandL k b q = [] by rw [expandL, if_neg hok])
    have HS1 := Lib.hid (show expB k b q = false from decide_eq_false hok)
    rw [HS0.out, HS1.out]
    exact I_Expand_no A B n c m d k b q w h g hok
  have HS0 := Lib.hid (show expandL k b q = cutN (expF k b) q.toNat by rw [expandL, if_pos hok])
  have HS1 := Lib.hid (show expB k b q = true from decide_eq_true hok)
  rw [HS0.out, HS1.out]
  obtain ⟨⟨hq0, hq1⟩, hm, hn⟩ := hok
  obtain ⟨N, rfl⟩ := Int.eq_ofNat_of_zero_le hq0
  rw [Int.toNat_natCast]
  have C := Lib.hid (I_in_yes (N : Int) 0 8160 w ⟨hq0, hq1⟩)
  have hm' : ¬ (100 : Int) < (m : Int) := by omega
  have hn' : ¬ (1048576 : Int) < (n : Int) := by omega
  have HL := Lib.hid (fun i => expT_len k b i hn hm)
  have HLE := Lib.hid (fun i => expT_le k b i)
  clear hkl hml hq0 HS0 HS1
  go_enter Try.func17, Try.ntmps17
  go_wp2_with fail
  refine C.out.mono ?_
  rintro e w' ⟨rfl, rfl⟩
  go_wp2_with fail
  go_loopw [8, 9, 10] (fun v u i wr => ∃ (j M c1 p c2 g1 : Nat) (A2 : Option Addr), v = .slice (some ⟨g1, 0, none⟩) M c1 ∧ u = .slice A2 p c2 ∧ i = .int .i64 ((j + 1 : Nat) : Int) ∧ Hid (M = 32 * j) ∧ M ≤ 10000 ∧ j ≤ (N + 31) / 32 ∧ p ≤ 32 ∧
      Hid (Ow wr 5 (some ⟨g1, 0, none⟩) M c1 w.heap.size wr.heap.size (bv (blk (expF k b) j))) ∧ Hid (Rd wr A2 p c2 (bv (expT k b j))) ∧ Below w.heap.size w wr)
    (fun v _ _ _ => N + 32 - lenV v)
  case atStart =>
    have e1 := (own_empty w 5).alloc (.cells #[] 5)
    have e2 := own_rd (own_empty (w.alloc (.cells #[] 5)) 5)
    rw [show (w.alloc (.cells #[] 5)).heap.size = w.heap.size + 1 by simp] at e2
    exact ⟨0, 0, 0, 0, 0, _, _, rfl, rfl, rfl, rfl, by omega, by omega, by omega, Ow.of_own e1, e2, balloc (balloc (Below.refl _ _) _) _⟩
  case round =>
    obtain ⟨j, M, c1, p, c2, g1, A2, rfl, rfl, rfl, HM, hM, hj, hp, HO, HT, hb⟩ := hrel
    have hOb := HO.out.rd.bnd
    have hTb := HT.out.bnd
    by_cases hlt : M < N
    · have hlt' : (M : Int) < (N : Int) := by omega
      have hj2 : j < (N + 31) / 32 := by have := HM.out; omega
      have hj3 : j ≤ 254 := by omega
      have ht1 := HT.out.alloc (.cells #[.int .u8 ((j : Int) + 1)] 5)
      have gi := (g.below hb (Nat.le_refl _)).alloc (.cells #[.int .u8 ((j : Int) + 1)] 5)
      have hx8 : IntKind.u8.wrap ((j : Int) + 1) = (j : Int) + 1 := by rw [IntKind.wrap_u8]; omega
      have hxu : (UInt8.ofNat (j + 1)).toNat = j + 1 := by simp; omega
      have hr6 : Rd (wr.alloc (.cells #[.int .u8 ((j : Int) + 1)] 5)) (some ⟨wr.heap.size, 0, none⟩) 1 1 (bv [UInt8.ofNat (j + 1)]) := rd_num wr _ _ hxu
      have CJ := fun t => I_joined3 A2 B (some ⟨wr.heap.size, 0, none⟩) p c2 m d 1 1 (expT k b j) b [UInt8.ofNat (j + 1)] (wr.alloc (.cells #[.int .u8 ((j : Int) + 1)] 5)) t ht1 gi hr6 (by omega) (by omega) (by omega)
      rw [show (wr.alloc (.cells #[.int .u8 ((j : Int) + 1)] 5)).heap.size = wr.heap.size + 1 by simp] at CJ
      have CJ := Lib.hid CJ
      go_wp2_with fail
      refine (CJ.out _).mono ?_
      rintro e W5 ⟨A5, n5, c5, rfl, o5, b5'⟩
      have b5 := bnext (balloc (Below.refl wr.heap.size wr) _) b5'
      have HC := Lib.hid (I_Hmac A A5 n c _ c5 k _ W5 (h.below (bnext hb b5) (Nat.le_refl _)) o5.rd)
      clear o5 b5' CJ hr6 ht1 gi
      go_wp2_with fail
      rw [show hmacL k (expT k b j ++ b ++ [UInt8.ofNat (j + 1)]) = expT k b (j + 1) from rfl] at HC
      refine HC.out.mono ?_
      rintro e W6 ⟨A6, n6, c6, rfl, o6, b6⟩
      have hn6 : 32 = n6 := by have h1 := o6.rd.len; rw [bv_len, HL.out j] at h1; exact h1
      subst hn6
      have b56 := bnext b5 b6
      have HO1 := Lib.hid (HO.out.below b56 (Nat.le_refl _)).own
      have r6 := o6.rd
      have z7 : w.heap.size ≤ W6.heap.size := by have h1 := hb.size; have h2 := b56.size; omega
      have q7 : M + 32 ≤ 70368744177664 := by omega
      clear HC
      go_wp2_with (at_builtin; refine append_bytes_g _ rfl _ _ rfl w.heap.size _ _ _ _ rfl HO1 _ _ _ _ rfl r6 q7 z7 ?_; intro A7 c7 W7 HO7 g7)
      obtain ⟨g7', cap7, hv7⟩ := Joins.ownsRow_form HO7.out (by omega)
      injection hv7 with e1 e2 e3
      subst e1
      have ho7 := Ow.of_own HO7.out
      have hng : ∀ x, (Value.slice (some ⟨g1, 0, none⟩) M c1).ownBlock = some x → w.heap.size ≤ x ∧ x < wr.heap.size := HO.out.rng
      have o8 := o6.grown g7 hng (.inr b5.size)
      have b8 : Below w.heap.size w W7 := hb.trans ((b56.mono hb.size).trans (grown_below g7 (fun x hx => (hng x hx).1) z7))
      go_roundw
      case rel => exact ⟨j + 1, M + 32, c7, 32, c6, g7', A6, rfl, rfl, by go_num, by have := HM.out; show _ = _; omega, by omega, by omega, by omega, ho7, o8.rd, b8⟩
      case measure => simp [lenV]; omega
    · have hlt' : ¬ (M : Int) < (N : Int) := by omega
      have hj2 : j = (N + 31) / 32 := by have := HM.out; omega
      have HS := Lib.hid (show cutN (expF k b) N = (blk (expF k b) j).take N by rw [cutN, hj2])
      have hC := HO.out.rd.take_ (m := N) (by omega)
      rw [bv_take] at hC
      have hNc : (N : Int) ≤ (c1 : Int) := by omega
      have HC := Lib.hid (I_clone _ _ _ _ wr hC (by omega))
      go_wp2_with fail
      refine HC.out.mono ?_
      rintro e W7 ⟨A7, n7, c7, rfl, o7, b7⟩
      go_wp2_with fail
      exact bodyPost_ret (v := .tuple #[.slice A7 n7 c7, .bool true]) (by simp [results, Try.results17, go_sem]) rfl (by rw [HS.out]; exact ⟨_, _, _, rfl, o7.less hb.size, bnext hb b7⟩)

end Go.Proofs.Ytbjbncmhnhlkpaa
