/- Contracts of Pad (reference and program): the padding of a message of n bytes; for all 64-bit integers. -/
import Derived.Test.YtnngiampfdjlfaaPutN
namespace Go.Proofs.Ytnngiampfdjlfaa
open Go.ChangeShapes Go.WideShapes Go.ChangeAt Go.RowKit
set_option linter.unusedVariables false

/-- How many zero bytes follow the byte x80. -/
def padZ (n : Nat) : Nat := (119 - n % 64) % 64
theorem padZ_lt (n : Nat) : padZ n < 64 := by unfold padZ; omega
theorem padZ_sum (n : Nat) : (n + padZ n + 9) % 64 = 0 := by unfold padZ; omega
theorem padZ_min (n j : Nat) (h : j < padZ n) : (n + j + 9) % 64 ≠ 0 := by unfold padZ at h; omega
/-- The byte x80 and j zero bytes. -/
def pad0 (j : Nat) : List UInt8 := 128 :: List.replicate j 0
theorem pad0_len (j : Nat) : (pad0 j).length = j + 1 := by simp [pad0]
theorem pad0_succ (j : Nat) : pad0 j ++ [0] = pad0 (j + 1) := by simp [pad0, List.replicate_succ']
/-- Pad of the program. -/
def padL (n : Int) : List UInt8 := if 0 ≤ n ∧ n ≤ 1048576 then pad0 (padZ n.toNat) ++ (putL 0 4 ++ putL (8 * n) 4) else []
theorem putL_zero4 : putL 0 4 = [0, 0, 0, 0] := by decide
theorem padL_spec (n : Nat) (h : n ≤ 1048576) : putN (putN (pad0 (padZ n)) 0 4) (8 * (n : Int)) 4 = padL n := by
  rw [putN, if_pos (by decide), putN, if_pos (by decide), padL, if_pos (by omega), Int.toNat_natCast, List.append_assoc]
  rfl
theorem byteAt_small (n : Int) (i : Nat) (h0 : 0 ≤ n) (h : n < 2 ^ (8 * i)) : byteAt n i = 0 := by
  unfold byteAt
  rw [Int.ediv_eq_zero_of_lt h0 h]
  rfl
theorem padL_impl (n : Nat) (h : n ≤ 1048576) : putN (pad0 (padZ n) ++ [0, 0]) (8 * (n : Int)) 6 = padL n := by
  rw [putN, if_pos (by decide), padL, if_pos (by omega), Int.toNat_natCast, List.append_assoc, putL_zero4]
  have e : putL (8 * (n : Int)) (6 : Int).toNat = [0, 0] ++ putL (8 * (n : Int)) 4 := by
    show byteAt _ 5 :: byteAt _ 4 :: putL (8 * (n : Int)) 4 = _
    rw [byteAt_small _ 5 (by omega) (by have h2 : (2 : Int) ^ (8 * 5) = 1099511627776 := by decide
                                        omega), byteAt_small _ 4 (by omega) (by have h2 : (2 : Int) ^ (8 * 4) = 4294967296 := by decide
                                                                                omega)]
    rfl
  rw [e]
  rfl
theorem padL_len (n : Int) : (padL n).length ≤ 72 := by
  unfold padL
  split
  · have := padZ_lt n.toNat
    simp [pad0_len, putL_len]; omega
  · simp

/-- The length of a slice in a slot: for a measure. -/
def lenOf : Value → Nat | .slice _ n _ => n | _ => 0

set_option maxHeartbeats 400000 in
theorem S_Pad_yes (n : Nat) (w : World) (hn : n ≤ 1048576) : Calls Try.prog 44 #[.int .i64 (n : Int)] w fun e w' => Out 5 w (bv (padL n)) e w' := by
  have HP := Lib.hid (padL_spec n hn : putN (putN (pad0 (padZ n)) 0 4) (8 * (n : Int)) 4 = padL n)
  have hn' : (n : Int) ≤ 1048576 := by omega
  go_enter Try.func44, Try.ntmps44
  go_wp2_with fail
  go_loopw [3] (fun v wr => ∃ (j m : Nat) (A' : Option Addr) (c' : Nat), v = .slice A' m c' ∧ m ≤ j + 1 ∧ j + 1 ≤ m ∧ j ≤ padZ n ∧
      Hid (Ow wr 5 A' m c' w.heap.size wr.heap.size (bv (pad0 j))) ∧ Below w.heap.size w wr)
    (fun v _ => 64 - lenOf v)
  case atStart =>
    refine ⟨0, 1, _, _, rfl, by omega, by omega, by omega, ?_, balloc (Below.refl _ _) _⟩
    exact Ow.of_own (World.ownsRow_lit w #[.int .u8 128] 1 (Nat.le_refl _) (by unfold maxLen; omega) rfl)
  case round =>
    obtain ⟨j, m, A2, c2, rfl, hm1, hm2, hj, HO, hb⟩ := hrel
    have hz := padZ_lt n
    by_cases hlt : j < padZ n
    · have hne : 0 < ((n : Int) + (m : Int) + 8) % 64 := by have := padZ_min n j hlt; omega
      have HOA := Lib.hid (HO.out.own.alloc (.cells #[.int .u8 0] 5))
      have q5 : m + 1 ≤ 70368744177664 := by omega
      have q6 : ∀ o, w.heap.size ≤ (wr.alloc o).heap.size := fun o => by have := hb.size; simp; omega
      go_wp2_with (at_builtin; refine append_bytes _ rfl _ _ rfl w.heap.size _ _ _ (pad0 j) rfl HOA _ _ _ [0] rfl (rd_one wr _ _) q5 (q6 _) ?_; intro A3 c3 W3 HO3 hb3)
      go_roundw
      case rel =>
        exact ⟨j + 1, m + 1, A3, c3, rfl, by omega, by omega, by omega, by rw [← pad0_succ]; exact Ow.of_own HO3.out, (hb.alloc hb.size _).trans hb3⟩
      case measure => simp [lenOf]; omega
    · obtain rfl : j = padZ n := by omega
      have hne : ((n : Int) + (m : Int) + 8) % 64 ≤ 0 := by have := padZ_sum n; omega
      generalize hjj : padZ n = j at *
      clear hjj
      go_wp2_with fail
      refine (S_PutN _ _ _ (pad0 j) 0 4 _ HO.out.rd (by omega)).mono ?_
      rintro e W4 ⟨A4, n4, c4, rfl, o4, b4⟩
      have hn4 : n4 ≤ 100 := by have h1 := o4.rd.len; rw [bv_len] at h1; have h2 := putN_len (pad0 j) 0 4; rw [pad0_len] at h2; omega
      have B4 := bnext hb b4
      go_wp2_with fail
      refine (S_PutN _ _ _ _ (8 * (n : Int)) 4 _ o4.rd (by omega)).mono ?_
      rintro e W5 ⟨A5, n5, c5, rfl, o5, b5⟩
      have B5 := bnext B4 b5
      go_wp2_with fail
      go_ret
      rw [← HP.out]
      exact ⟨_, _, _, rfl, o5.less (by have := B4.size; omega), B5⟩

theorem S_Pad_no (n : Int) (w : World) (hn : ¬ (0 ≤ n ∧ n ≤ 1048576)) : Calls Try.prog 44 #[.int .i64 n] w fun e w' => Out 5 w (bv []) e w' := by
  by_cases h1 : n < 0
  · clear hn
    go_enter Try.func44, Try.ntmps44
    go_wp2_with fail
    go_ret
    exact ⟨_, _, _, rfl, Ow.of_own (World.ownsRow_lit w #[] 0 (Nat.le_refl _) (Nat.zero_le _) rfl), balloc (Below.refl _ _) _⟩
  · have h2 : 1048576 < n := by omega
    clear hn
    go_enter Try.func44, Try.ntmps44
    go_wp2_with fail
    go_ret
    exact ⟨_, _, _, rfl, Ow.of_own (World.ownsRow_lit w #[] 0 (Nat.le_refl _) (Nat.zero_le _) rfl), balloc (Below.refl _ _) _⟩

theorem S_Pad (n : Int) (w : World) : Calls Try.prog 44 #[.int .i64 n] w fun e w' => Out 5 w (bv (padL n)) e w' := by
  by_cases hn : 0 ≤ n ∧ n ≤ 1048576
  · obtain ⟨n, rfl⟩ := Int.eq_ofNat_of_zero_le hn.1
    exact S_Pad_yes n w (by omega)
  · rw [padL, if_neg hn]
    exact S_Pad_no n w hn

set_option maxHeartbeats 400000 in
theorem I_Pad_yes (n : Nat) (w : World) (hn : n ≤ 1048576) : Calls Try.prog 49 #[.int .i64 (n : Int)] w fun e w' => Out 5 w (bv (padL n)) e w' := by
  have HP := Lib.hid (padL_impl n hn : putN (pad0 (padZ n) ++ [0, 0]) (8 * (n : Int)) 6 = padL n)
  have hn' : (n : Int) ≤ 1048576 := by omega
  go_enter Try.func49, Try.ntmps49
  go_wp2_with fail
  refine (I_in_yes _ _ _ _ ⟨by omega, hn'⟩).mono ?_
  rintro e w' ⟨rfl, rfl⟩
  go_wp2_with fail
  go_loopw [3] (fun v wr => ∃ (j m : Nat) (A' : Option Addr) (c' : Nat), v = .slice A' m c' ∧ m ≤ j + 1 ∧ j + 1 ≤ m ∧ j ≤ padZ n ∧
      Hid (Ow wr 5 A' m c' w.heap.size wr.heap.size (bv (pad0 j))) ∧ Below w.heap.size w wr)
    (fun v _ => 64 - lenOf v)
  case atStart =>
    refine ⟨0, 1, _, _, rfl, by omega, by omega, by omega, ?_, balloc (Below.refl _ _) _⟩
    exact Ow.of_own (World.ownsRow_lit w #[.int .u8 128] 1 (Nat.le_refl _) (by unfold maxLen; omega) rfl)
  case round =>
    obtain ⟨j, m, A2, c2, rfl, hm1, hm2, hj, HO, hb⟩ := hrel
    have hz := padZ_lt n
    by_cases hlt : j < padZ n
    · have hne : 0 < ((n : Int) + (m : Int) + 8) % 64 := by have := padZ_min n j hlt; omega
      have HOA := Lib.hid (HO.out.own.alloc (.cells #[.int .u8 0] 5))
      have q5 : m + 1 ≤ 70368744177664 := by omega
      have q6 : ∀ o, w.heap.size ≤ (wr.alloc o).heap.size := fun o => by have := hb.size; simp; omega
      go_wp2_with (at_builtin; refine append_bytes _ rfl _ _ rfl w.heap.size _ _ _ (pad0 j) rfl HOA _ _ _ [0] rfl (rd_one wr _ _) q5 (q6 _) ?_; intro A3 c3 W3 HO3 hb3)
      go_roundw
      case rel =>
        exact ⟨j + 1, m + 1, A3, c3, rfl, by omega, by omega, by omega, by rw [← pad0_succ]; exact Ow.of_own HO3.out, (hb.alloc hb.size _).trans hb3⟩
      case measure => simp [lenOf]; omega
    · obtain rfl : j = padZ n := by omega
      have hne : ((n : Int) + (m : Int) + 8) % 64 ≤ 0 := by have := padZ_sum n; omega
      generalize hjj : padZ n = j at *
      clear hjj
      have HOA := Lib.hid (HO.out.own.alloc (.cells #[.int .u8 0, .int .u8 0] 5))
      have q5 : m + 2 ≤ 70368744177664 := by omega
      have q6 : ∀ o, w.heap.size ≤ (wr.alloc o).heap.size := fun o => by have := hb.size; simp; omega
      go_wp2_with (at_builtin; refine append_bytes _ rfl _ _ rfl w.heap.size _ _ _ (pad0 j) rfl HOA _ _ _ [0, 0] rfl (rd_two wr _ _ _) q5 (q6 _) ?_; intro A3 c3 W3 HO3 hb3)
      have B3 := (hb.alloc hb.size (.cells #[.int .u8 0, .int .u8 0] 5)).trans hb3
      have o3 := Ow.of_own HO3.out
      refine (I_PutN _ _ _ (pad0 j ++ [0, 0]) (8 * (n : Int)) 6 _ o3.rd (by omega)).mono ?_
      rintro e W5 ⟨A5, n5, c5, rfl, o5, b5⟩
      have B5 := bnext B3 b5
      go_wp2_with fail
      go_ret
      rw [← HP.out]
      exact ⟨_, _, _, rfl, o5.less (by have := B3.size; omega), B5⟩

theorem I_Pad_no (n : Int) (w : World) (hn : ¬ (0 ≤ n ∧ n ≤ 1048576)) : Calls Try.prog 49 #[.int .i64 n] w fun e w' => Out 5 w (bv []) e w' := by
  have HN := Lib.hid hn
  clear hn
  go_enter Try.func49, Try.ntmps49
  go_wp2_with fail
  refine (I_in_no _ _ _ _ HN.out).mono ?_
  rintro e w' ⟨rfl, rfl⟩
  go_wp2_with fail
  go_ret
  exact ⟨_, _, _, rfl, Ow.of_own (World.ownsRow_nil _ _ _ _), Below.refl _ _⟩

theorem I_Pad (n : Int) (w : World) : Calls Try.prog 49 #[.int .i64 n] w fun e w' => Out 5 w (bv (padL n)) e w' := by
  by_cases hn : 0 ≤ n ∧ n ≤ 1048576
  · obtain ⟨n, rfl⟩ := Int.eq_ofNat_of_zero_le hn.1
    exact I_Pad_yes n w (by omega)
  · rw [padL, if_neg hn]
    exact I_Pad_no n w hn

end Go.Proofs.Ytnngiampfdjlfaa
