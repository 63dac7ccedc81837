/- Contracts of Stream, of the reference and of the program. -/
import Derived.Test.YtbjbncmhnhlkpaaMac5
namespace Go.Proofs.Ytbjbncmhnhlkpaa
open Go.ChangeShapes Go.WideShapes Go.ChangeAt Go.RowKit
set_option linter.unusedVariables false

set_option maxHeartbeats 1000000 in
theorem S_Stream_no (A B : Option Addr) (n c m d : Nat) (k b : List UInt8) (q : Int) (w : World) (h : Rd w A n c (bv k)) (g : Rd w B m d (bv b)) (hok : ¬ strOk k b q) :
    Calls Try.prog 23 #[.slice A n c, .slice B m d, .int .i64 q] w fun e w' => Out 5 w (bv []) e w' := by
  have hkl : k.length = n := by have := h.len; rwa [bv_len] at this
  have hml : b.length = m := by have := g.len; rwa [bv_len] at this
  have hbd := h.bnd
  have hbd2 := g.bnd
  by_cases hi : 0 ≤ q ∧ q ≤ 200
  rotate_left
  · have C := Lib.hid (S_in_no q 0 200 w hi)
    clear hkl hml hi hok
    go_enter Try.func23, Try.ntmps23
    go_wp2_with fail
    refine C.out.mono ?_
    rintro e w' ⟨rfl, rfl⟩
    go_wp2_with fail
    exact bodyPost_ret (v := .slice (some ⟨w.heap.size, 0, none⟩) 0 0) (by simp [results, Try.results23, go_sem]) rfl ⟨_, _, _, rfl, Ow.of_own (own_empty w _), balloc (Below.refl _ _) _⟩
  have C := Lib.hid (S_in_yes q 0 200 w hi)
  by_cases hm : m ≤ 100
  rotate_left
  · have hm' : (100 : Int) < (m : Int) := by omega
    clear hkl hml hi hok
    go_enter Try.func23, Try.ntmps23
    go_wp2_with fail
    refine C.out.mono ?_
    rintro e w' ⟨rfl, rfl⟩
    go_wp2_with fail
    exact bodyPost_ret (v := .slice (some ⟨w.heap.size, 0, none⟩) 0 0) (by simp [results, Try.results23, go_sem]) rfl ⟨_, _, _, rfl, Ow.of_own (own_empty w _), balloc (Below.refl _ _) _⟩
  have hm' : ¬ (100 : Int) < (m : Int) := by omega
  have hn' : (1048576 : Int) < (n : Int) := by
    refine Int.not_le.1 fun hn => hok ⟨hi, by omega, by omega⟩
  clear hkl hml hi hok
  go_enter Try.func23, Try.ntmps23
  go_wp2_with fail
  refine C.out.mono ?_
  rintro e w' ⟨rfl, rfl⟩
  go_wp2_with fail
  exact bodyPost_ret (v := .slice (some ⟨w.heap.size, 0, none⟩) 0 0) (by simp [results, Try.results23, go_sem]) rfl ⟨_, _, _, rfl, Ow.of_own (own_empty w _), balloc (Below.refl _ _) _⟩

set_option maxHeartbeats 1000000 in
theorem S_Stream (A B : Option Addr) (n c m d : Nat) (k b : List UInt8) (q : Int) (w : World) (h : Rd w A n c (bv k)) (g : Rd w B m d (bv b)) :
    Calls Try.prog 23 #[.slice A n c, .slice B m d, .int .i64 q] w fun e w' => Out 5 w (bv (streamL k b q)) e w' := by
  have hkl : k.length = n := by have := h.len; rwa [bv_len] at this
  have hml : b.length = m := by have := g.len; rwa [bv_len] at this
  have hbd := h.bnd
  have hbd2 := g.bnd
  by_cases hok : strOk k b q
  rotate_left
  · have HS0 := Lib.hid (show streamL k b q = [] by rw [streamL, if_neg hok])
    rw [HS0.out]
    exact S_Stream_no A B n c m d k b q w h g hok
  have HS0 := Lib.hid (show streamL k b q = cutN (strF k b) q.toNat by rw [streamL, if_pos hok])
  rw [HS0.out]
  obtain ⟨⟨hq0, hq1⟩, hm, hn⟩ := hok
  obtain ⟨N, rfl⟩ := Int.eq_ofNat_of_zero_le hq0
  rw [Int.toNat_natCast]
  have C := Lib.hid (S_in_yes (N : Int) 0 200 w ⟨hq0, hq1⟩)
  have hm' : ¬ (100 : Int) < (m : Int) := by omega
  have hn' : ¬ (1048576 : Int) < (n : Int) := by omega
  have HL := Lib.hid (fun i => blockOfL_len k b i hn hm)
  clear hkl hml hq0 HS0
  go_enter Try.func23, Try.ntmps23
  go_wp2_with fail
  refine C.out.mono ?_
  rintro e w' ⟨rfl, rfl⟩
  go_wp2_with fail
  go_loopw [7, 8] (fun v i wr => ∃ (j M c1 g1 : Nat), v = .slice (some ⟨g1, 0, none⟩) M c1 ∧ i = .int .i64 j ∧ Hid (M = 32 * j) ∧ M ≤ 10000 ∧ j ≤ (N + 31) / 32 ∧
      Hid (Ow wr 5 (some ⟨g1, 0, none⟩) M c1 w.heap.size wr.heap.size (bv (blk (strF k b) j))) ∧ Below w.heap.size w wr)
    (fun v _ _ => N + 32 - lenV v)
  case atStart => exact ⟨0, 0, 0, _, rfl, rfl, rfl, by omega, by omega, Ow.of_own (own_empty w 5), balloc (Below.refl _ _) _⟩
  case round =>
    obtain ⟨j, M, c1, g1, rfl, rfl, HM, hM, hj, HO, hb⟩ := hrel
    have hOb := HO.out.rd.bnd
    by_cases hlt : M < N
    · have hlt' : (M : Int) < (N : Int) := by omega
      have hj2 : j < (N + 31) / 32 := by have := HM.out; omega
      have hj3 : j ≤ 6 := by omega
      have HC := Lib.hid (S_BlockOf A B n c m d k b j wr (h.below hb (Nat.le_refl _)) (g.below hb (Nat.le_refl _)))
      go_wp2_with fail
      refine HC.out.mono ?_
      rintro e W6 ⟨A6, n6, c6, rfl, o6, b6⟩
      have hn6 : 32 = n6 := by have h1 := o6.rd.len; rw [bv_len, HL.out j (by omega)] at h1; exact h1
      subst hn6
      have HO1 := Lib.hid (HO.out.below b6 (Nat.le_refl _)).own
      have r6 := o6.rd
      have z7 : w.heap.size ≤ W6.heap.size := by have h1 := hb.size; have h2 := b6.size; omega
      have q7 : M + 32 ≤ 70368744177664 := by omega
      clear HC
      go_wp2_with (at_builtin; refine append_bytes _ rfl _ _ rfl w.heap.size _ _ _ _ rfl HO1 _ _ _ _ rfl r6 q7 z7 ?_; intro A7 c7 W7 HO7 b7)
      obtain ⟨g7', cap7, hv7⟩ := Joins.ownsRow_form HO7.out (by omega)
      injection hv7 with e1 e2 e3
      subst e1
      have ho7 := Ow.of_own HO7.out
      have b8 : Below w.heap.size w W7 := (bnext hb b6).trans b7
      go_roundw
      case rel => exact ⟨j + 1, M + 32, c7, g7', rfl, by go_num, by have := HM.out; show _ = _; omega, by omega, by omega, ho7, b8⟩
      case measure => simp [lenV]; omega
    · have hlt' : ¬ (M : Int) < (N : Int) := by omega
      have hj2 : j = (N + 31) / 32 := by have := HM.out; omega
      have HS := Lib.hid (show cutN (strF k b) N = (blk (strF k b) j).take N by rw [cutN, hj2])
      have hC := HO.out.rd.take_ (m := N) (by omega)
      rw [bv_take] at hC
      have hNc : (N : Int) ≤ (c1 : Int) := by omega
      have HE := Lib.hid (own_empty wr 5)
      have hra := hC.alloc (.cells #[] 5)
      have q5 : 0 + N ≤ 70368744177664 := by omega
      have q6 : wr.heap.size ≤ (wr.alloc (.cells #[] 5)).heap.size := by simp
      go_wp2_with (at_builtin; refine append_bytes _ rfl _ _ rfl wr.heap.size _ _ _ [] rfl HE _ _ _ _ rfl hra q5 q6 ?_; intro A7 c7 W7 HO7 hb7)
      have ho7 := HO7.out
      rw [Nat.zero_add, List.nil_append] at ho7
      have b7 := (balloc (Below.refl wr.heap.size wr) _).trans hb7
      exact bodyPost_ret (v := .slice A7 N c7) (by simp [results, Try.results23, go_sem]) rfl (by rw [HS.out]; exact ⟨_, _, _, rfl, (Ow.of_own ho7).less hb.size, bnext hb b7⟩)

set_option maxHeartbeats 1000000 in
theorem I_Stream_no (A B : Option Addr) (n c m d : Nat) (k b : List UInt8) (q : Int) (w : World) (h : Rd w A n c (bv k)) (g : Rd w B m d (bv b)) (hok : ¬ strOk k b q) :
    Calls Try.prog 24 #[.slice A n c, .slice B m d, .int .i64 q] w fun e w' => Out 5 w (bv []) e w' := by
  have hkl : k.length = n := by have := h.len; rwa [bv_len] at this
  have hml : b.length = m := by have := g.len; rwa [bv_len] at this
  have hbd := h.bnd
  have hbd2 := g.bnd
  by_cases hi : 0 ≤ q ∧ q ≤ 200
  rotate_left
  · have C := Lib.hid (I_in_no q 0 200 w hi)
    clear hkl hml hi hok
    go_enter Try.func24, Try.ntmps24
    go_wp2_with fail
    refine C.out.mono ?_
    rintro e w' ⟨rfl, rfl⟩
    go_wp2_with fail
    exact bodyPost_ret (v := .slice none 0 0) (by simp [results, Try.results24, go_sem]) rfl ⟨_, _, _, rfl, Ow.nil_ _ _ _ _, Below.refl _ _⟩
  have C := Lib.hid (I_in_yes q 0 200 w hi)
  by_cases hm : m ≤ 100
  rotate_left
  · have hm' : (100 : Int) < (m : Int) := by omega
    clear hkl hml hi hok
    go_enter Try.func24, Try.ntmps24
    go_wp2_with fail
    refine C.out.mono ?_
    rintro e w' ⟨rfl, rfl⟩
    go_wp2_with fail
    exact bodyPost_ret (v := .slice none 0 0) (by simp [results, Try.results24, go_sem]) rfl ⟨_, _, _, rfl, Ow.nil_ _ _ _ _, Below.refl _ _⟩
  have hm' : ¬ (100 : Int) < (m : Int) := by omega
  have hn' : (1048576 : Int) < (n : Int) := by
    refine Int.not_le.1 fun hn => hok ⟨hi, by omega, by omega⟩
  clear hkl hml hi hok
  go_enter Try.func24, Try.ntmps24
  go_wp2_with fail
  refine C.out.mono ?_
  rintro e w' ⟨rfl, rfl⟩
  go_wp2_with fail
  exact bodyPost_ret (v := .slice none 0 0) (by simp [results, Try.results24, go_sem]) rfl ⟨_, _, _, rfl, Ow.nil_ _ _ _ _, Below.refl _ _⟩

set_option maxHeartbeats 1000000 in
theorem I_Stream (A B : Option Addr) (n c m d : Nat) (k b : List UInt8) (q : Int) (w : World) (h : Rd w A n c (bv k)) (g : Rd w B m d (bv b)) :
    Calls Try.prog 24 #[.slice A n c, .slice B m d, .int .i64 q] w fun e w' => Out 5 w (bv (streamL k b q)) e w' := by
  have hkl : k.length = n := by have := h.len; rwa [bv_len] at this
  have hml : b.length = m := by have := g.len; rwa [bv_len] at this
  have hbd := h.bnd
  have hbd2 := g.bnd
  by_cases hok : strOk k b q
  rotate_left
  · have HS0 := Lib.hid (show streamL k b q = [] by rw [streamL, if_neg hok])
    rw [HS0.out]
    exact I_Stream_no A B n c m d k b q w h g hok
  have HS0 := Lib.hid (show streamL k b q = cutN (strF k b) q.toNat by rw [streamL, if_pos hok])
  rw [HS0.out]
  obtain ⟨⟨hq0, hq1⟩, hm, hn⟩ := hok
  obtain ⟨N, rfl⟩ := Int.eq_ofNat_of_zero_le hq0
  rw [Int.toNat_natCast]
  have C := Lib.hid (I_in_yes (N : Int) 0 200 w ⟨hq0, hq1⟩)
  have hm' : ¬ (100 : Int) < (m : Int) := by omega
  have hn' : ¬ (1048576 : Int) < (n : Int) := by omega
  have HL := Lib.hid (fun i => blockOfL_len k b i hn hm)
  clear hkl hml hq0 HS0
  go_enter Try.func24, Try.ntmps24
  go_wp2_with fail
  refine C.out.mono ?_
  rintro e w' ⟨rfl, rfl⟩
  go_wp2_with fail
  go_loopw [7, 8] (fun v i wr => ∃ (j M c1 g1 : Nat), v = .slice (some ⟨g1, 0, none⟩) M c1 ∧ i = .int .i64 j ∧ Hid (M = 32 * j) ∧ M ≤ 10000 ∧ j ≤ (N + 31) / 32 ∧
      Hid (Ow wr 5 (some ⟨g1, 0, none⟩) M c1 w.heap.size wr.heap.size (bv (blk (strF k b) j))) ∧ Below w.heap.size w wr)
    (fun v _ _ => N + 32 - lenV v)
  case atStart => exact ⟨0, 0, 0, _, rfl, rfl, rfl, by omega, by omega, Ow.of_own (own_empty w 5), balloc (Below.refl _ _) _⟩
  case round =>
    obtain ⟨j, M, c1, g1, rfl, rfl, HM, hM, hj, HO, hb⟩ := hrel
    have hOb := HO.out.rd.bnd
    by_cases hlt : M < N
    · have hlt' : (M : Int) < (N : Int) := by omega
      have hj2 : j < (N + 31) / 32 := by have := HM.out; omega
      have hj3 : j ≤ 6 := by omega
      have HC := Lib.hid (I_BlockOf A B n c m d k b j wr (h.below hb (Nat.le_refl _)) (g.below hb (Nat.le_refl _)))
      go_wp2_with fail
      refine HC.out.mono ?_
      rintro e W6 ⟨A6, n6, c6, rfl, o6, b6⟩
      have hn6 : 32 = n6 := by have h1 := o6.rd.len; rw [bv_len, HL.out j (by omega)] at h1; exact h1
      subst hn6
      have HO1 := Lib.hid (HO.out.below b6 (Nat.le_refl _)).own
      have r6 := o6.rd
      have z7 : w.heap.size ≤ W6.heap.size := by have h1 := hb.size; have h2 := b6.size; omega
      have q7 : M + 32 ≤ 70368744177664 := by omega
      clear HC
      go_wp2_with (at_builtin; refine append_bytes _ rfl _ _ rfl w.heap.size _ _ _ _ rfl HO1 _ _ _ _ rfl r6 q7 z7 ?_; intro A7 c7 W7 HO7 b7)
      obtain ⟨g7', cap7, hv7⟩ := Joins.ownsRow_form HO7.out (by omega)
      injection hv7 with e1 e2 e3
      subst e1
      have ho7 := Ow.of_own HO7.out
      have b8 : Below w.heap.size w W7 := (bnext hb b6).trans b7
      go_roundw
      case rel => exact ⟨j + 1, M + 32, c7, g7', rfl, by go_num, by have := HM.out; show _ = _; omega, by omega, by omega, ho7, b8⟩
      case measure => simp [lenV]; omega
    · have hlt' : ¬ (M : Int) < (N : Int) := by omega
      have hj2 : j = (N + 31) / 32 := by have := HM.out; omega
      have HS := Lib.hid (show cutN (strF k b) N = (blk (strF k b) j).take N by rw [cutN, hj2])
      have hC := HO.out.rd.take_ (m := N) (by omega)
      rw [bv_take] at hC
      have hNc : (N : Int) ≤ (c1 : Int) := by omega
      have HC := Lib.hid (I_clone _ _ _ _ wr hC (by omega))
      go_wp2_with fail
      refine HC.out.mono ?_
      rintro e W7 ⟨A7, n7, c7, rfl, o7, b7⟩
      go_wp2_with fail
      exact bodyPost_ret (v := .slice A7 n7 c7) (by simp [results, Try.results24, go_sem]) rfl (by rw [HS.out]; exact ⟨_, _, _, rfl, o7.less hb.size, bnext hb b7⟩)

end Go.Proofs.Ytbjbncmhnhlkpaa
