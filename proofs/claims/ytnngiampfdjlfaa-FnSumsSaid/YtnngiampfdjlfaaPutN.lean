/- Contracts of PutN (reference and program): the bytes, followed by the lowest 8*k bits of n, most significant byte first; for every slice of at most 2^46 - 6 bytes and all 64-bit integers. -/
import Derived.Test.YtnngiampfdjlfaaAppend
namespace Go.Proofs.Ytnngiampfdjlfaa
open Go.ChangeShapes Go.WideShapes Go.ChangeAt Go.RowKit
set_option linter.unusedVariables false

/-- Byte i of n (byte 0 is the least significant). -/
def byteAt (n : Int) (i : Nat) : UInt8 := UInt8.ofNat (n / 2 ^ (8 * i) % 256).toNat
/-- The lowest k bytes of n, most significant first. -/
def putL (n : Int) : Nat → List UInt8
  | 0 => []
  | k + 1 => byteAt n k :: putL n k
theorem putL_len (n : Int) (k : Nat) : (putL n k).length = k := by
  induction k with
  | zero => rfl
  | succ k ih => simp [putL, ih]
theorem byteAt_val (n : Int) (i : Nat) : (((byteAt n i).toNat : Nat) : Int) = n / 2 ^ (8 * i) % 256 := by
  unfold byteAt
  rw [UInt8.toNat_ofNat']
  omega
/-- PutN of the program. -/
def putN (l : List UInt8) (n k : Int) : List UInt8 := if 1 ≤ k ∧ k ≤ 6 then l ++ putL n k.toNat else l
theorem putN_len (l : List UInt8) (n k : Int) : (putN l n k).length ≤ l.length + 6 := by
  unfold putN
  split
  · simp [putL_len]; omega
  · omega

theorem byteAt_shift (n : Int) (j : Nat) : n / 2 ^ (8 * (j : Int)).toNat % 256 = (((byteAt n j).toNat : Nat) : Int) := by
  rw [byteAt_val, show (8 * (j : Int)).toNat = 8 * j by omega]
theorem putL_step (xs l : List UInt8) (n : Int) (j k : Nat) (h : xs ++ putL n (j + 1) = l ++ putL n k) : (xs ++ [byteAt n j]) ++ putL n j = l ++ putL n k := by
  rw [← h, putL, List.append_assoc]; rfl

set_option maxHeartbeats 400000 in
theorem S_PutN_yes (A : Option Addr) (N c : Nat) (l : List UInt8) (n : Int) (k : Nat) (w : World) (h : Rd w A N c (bv l)) (hk1 : 1 ≤ k) (hk : k ≤ 6) (hN : N ≤ 70000000000000) :
    Calls Try.prog 61 #[.slice A N c, .int .i64 n, .int .i64 (k : Int)] w fun e w' => Out 5 w (bv (l ++ putL n k)) e w' := by
  have hl : l.length = N := by have := h.len; rwa [bv_len] at this
  have hbd := h.bnd
  have HR := Lib.hid (h.alloc (.cells #[] 5))
  have q3 : 0 + N ≤ 70368744177664 := by omega
  have q4 : ∀ o, w.heap.size ≤ (w.alloc o).heap.size := fun o => by simp
  have HL := Lib.hid hl
  clear hl h
  go_enter Try.func61, Try.ntmps61
  go_wp2_with (at_builtin; refine append_bytes _ rfl _ _ rfl w.heap.size _ _ _ [] rfl (Lib.hid (own_empty w _)) _ _ _ l rfl HR.out q3 (q4 _) ?_; intro A1 c1 W1 HO hb1)
  go_loopw [7, 8] (fun v i wr => ∃ (j : Nat) (q : Int) (A' : Option Addr) (m c' : Nat) (xs : List UInt8), v = .slice A' m c' ∧ i = .int .i64 q ∧ Hid (q = (j : Int) - 1) ∧ j ≤ k ∧
      Hid (wr.ownsRow w.heap.size 5 1 (.slice A' m c') m (bv xs)) ∧ Hid (xs ++ putL n j = l ++ putL n k) ∧ m + j ≤ N + 6 ∧ Below w.heap.size w wr)
    (fun _ i _ => (intOf i + 1).toNat)
  case atStart =>
    refine ⟨k, _, A1, N, c1, l, rfl, rfl, (rfl : _ = _), Nat.le_refl _, ?_, (rfl : _ = _), by omega, (balloc (Below.refl _ _) _).trans hb1⟩
    have ho := HO.out
    rw [Nat.zero_add, List.nil_append] at ho
    exact ho
  case round =>
    obtain ⟨j, q, A2, m, c2, xs, rfl, rfl, HQ, hjk, HO2, HX, hmj, hb⟩ := hrel
    rcases j with _ | j
    · obtain rfl : q = -1 := by have := HQ.out; omega
      go_wp2
      go_ret
      have e := HX.out
      rw [putL, List.append_nil] at e
      have ho := HO2.out
      rw [e] at ho
      exact ⟨_, _, _, rfl, Ow.of_own ho, hb⟩
    · obtain rfl : q = (j : Int) := by have := HQ.out; omega
      have e1 := (byteAt_val n j).symm
      have hby := byte_lt (byteAt n j)
      have q5 : m + 1 ≤ 70368744177664 := by omega
      have q6 : ∀ o, w.heap.size ≤ (wr.alloc o).heap.size := fun o => by have := hb.size; simp; omega
      have HOA := Lib.hid (HO2.out.alloc (.cells #[.int .u8 (((byteAt n j).toNat : Nat) : Int)] 5))
      go_wp2_with (at_builtin; refine append_bytes _ rfl _ _ rfl w.heap.size _ _ _ xs rfl HOA _ _ _ [byteAt n j] rfl (rd_one wr _ _) q5 (q6 _) ?_; intro A3 c3 W3 HO3 hb3)
      go_roundw
      case rel =>
        exact ⟨j, _, A3, m + 1, c3, xs ++ [byteAt n j], rfl, rfl, (rfl : _ = _), by omega, HO3, putL_step xs l n j k HX.out, by omega, (hb.alloc hb.size _).trans hb3⟩
      case measure => simp [intOf]

theorem S_PutN_no (A : Option Addr) (N c : Nat) (l : List UInt8) (n k : Int) (w : World) (h : Rd w A N c (bv l)) (hk : ¬ (1 ≤ k ∧ k ≤ 6)) (hN : N ≤ 70000000000000) :
    Calls Try.prog 61 #[.slice A N c, .int .i64 n, .int .i64 k] w fun e w' => Out 5 w (bv l) e w' := by
  have hbd := h.bnd
  have HR := Lib.hid (h.alloc (.cells #[] 5))
  have q3 : 0 + N ≤ 70368744177664 := by omega
  have q4 : ∀ o, w.heap.size ≤ (w.alloc o).heap.size := fun o => by simp
  clear h
  by_cases h1 : k < 1
  · clear hk
    go_enter Try.func61, Try.ntmps61
    go_wp2_with (at_builtin; refine append_bytes _ rfl _ _ rfl w.heap.size _ _ _ [] rfl (Lib.hid (own_empty w _)) _ _ _ l rfl HR.out q3 (q4 _) ?_; intro A1 c1 W1 HO hb1)
    go_ret
    have ho := HO.out
    rw [Nat.zero_add, List.nil_append] at ho
    exact ⟨_, _, _, rfl, Ow.of_own ho, (balloc (Below.refl _ _) _).trans hb1⟩
  · have h2 : 6 < k := by omega
    clear hk
    go_enter Try.func61, Try.ntmps61
    go_wp2_with (at_builtin; refine append_bytes _ rfl _ _ rfl w.heap.size _ _ _ [] rfl (Lib.hid (own_empty w _)) _ _ _ l rfl HR.out q3 (q4 _) ?_; intro A1 c1 W1 HO hb1)
    go_ret
    have ho := HO.out
    rw [Nat.zero_add, List.nil_append] at ho
    exact ⟨_, _, _, rfl, Ow.of_own ho, (balloc (Below.refl _ _) _).trans hb1⟩

theorem S_PutN (A : Option Addr) (N c : Nat) (l : List UInt8) (n k : Int) (w : World) (h : Rd w A N c (bv l)) (hN : N ≤ 70000000000000) :
    Calls Try.prog 61 #[.slice A N c, .int .i64 n, .int .i64 k] w fun e w' => Out 5 w (bv (putN l n k)) e w' := by
  by_cases hk : 1 ≤ k ∧ k ≤ 6
  · rw [putN, if_pos hk]
    obtain ⟨k, rfl⟩ := Int.eq_ofNat_of_zero_le (show 0 ≤ k by omega)
    exact S_PutN_yes A N c l n k w h (by omega) (by omega) hN
  · rw [putN, if_neg hk]
    exact S_PutN_no A N c l n k w h hk hN

set_option maxHeartbeats 400000 in
theorem I_PutN_yes (A : Option Addr) (N c : Nat) (l : List UInt8) (n : Int) (k : Nat) (w : World) (h : Rd w A N c (bv l)) (hk1 : 1 ≤ k) (hk : k ≤ 6) (hN : N ≤ 70000000000000) :
    Calls Try.prog 62 #[.slice A N c, .int .i64 n, .int .i64 (k : Int)] w fun e w' => Out 5 w (bv (l ++ putL n k)) e w' := by
  have hl : l.length = N := by have := h.len; rwa [bv_len] at this
  have hbd := h.bnd
  have HR := Lib.hid (h.alloc (.cells #[] 5))
  have q3 : 0 + N ≤ 70368744177664 := by omega
  have q4 : ∀ o, w.heap.size ≤ (w.alloc o).heap.size := fun o => by simp
  have HL := Lib.hid hl
  clear hl h
  go_enter Try.func62, Try.ntmps62
  go_wp2_with (at_builtin; refine append_bytes _ rfl _ _ rfl w.heap.size _ _ _ [] rfl (Lib.hid (own_empty w _)) _ _ _ l rfl HR.out q3 (q4 _) ?_; intro A1 c1 W1 HO hb1)
  go_loopw [7, 8] (fun v i wr => ∃ (j : Nat) (q : Int) (A' : Option Addr) (m c' : Nat) (xs : List UInt8), v = .slice A' m c' ∧ i = .int .i64 q ∧ Hid (q = (j : Int) - 1) ∧ j ≤ k ∧
      Hid (wr.ownsRow w.heap.size 5 1 (.slice A' m c') m (bv xs)) ∧ Hid (xs ++ putL n j = l ++ putL n k) ∧ m + j ≤ N + 6 ∧ Below w.heap.size w wr)
    (fun _ i _ => (intOf i + 1).toNat)
  case atStart =>
    refine ⟨k, _, A1, N, c1, l, rfl, rfl, (rfl : _ = _), Nat.le_refl _, ?_, (rfl : _ = _), by omega, (balloc (Below.refl _ _) _).trans hb1⟩
    have ho := HO.out
    rw [Nat.zero_add, List.nil_append] at ho
    exact ho
  case round =>
    obtain ⟨j, q, A2, m, c2, xs, rfl, rfl, HQ, hjk, HO2, HX, hmj, hb⟩ := hrel
    rcases j with _ | j
    · obtain rfl : q = -1 := by have := HQ.out; omega
      go_wp2
      go_ret
      have e := HX.out
      rw [putL, List.append_nil] at e
      have ho := HO2.out
      rw [e] at ho
      exact ⟨_, _, _, rfl, Ow.of_own ho, hb⟩
    · obtain rfl : q = (j : Int) := by have := HQ.out; omega
      have e1 := (byteAt_val n j).symm
      have hby := byte_lt (byteAt n j)
      have q5 : m + 1 ≤ 70368744177664 := by omega
      have q6 : ∀ o, w.heap.size ≤ (wr.alloc o).heap.size := fun o => by have := hb.size; simp; omega
      have HOA := Lib.hid (HO2.out.alloc (.cells #[.int .u8 (((byteAt n j).toNat : Nat) : Int)] 5))
      go_wp2_with (at_builtin; refine append_bytes _ rfl _ _ rfl w.heap.size _ _ _ xs rfl HOA _ _ _ [byteAt n j] rfl (rd_one wr _ _) q5 (q6 _) ?_; intro A3 c3 W3 HO3 hb3)
      go_roundw
      case rel =>
        exact ⟨j, _, A3, m + 1, c3, xs ++ [byteAt n j], rfl, rfl, (rfl : _ = _), by omega, HO3, putL_step xs l n j k HX.out, by omega, (hb.alloc hb.size _).trans hb3⟩
      case measure => simp [intOf]

theorem I_PutN_no (A : Option Addr) (N c : Nat) (l : List UInt8) (n k : Int) (w : World) (h : Rd w A N c (bv l)) (hk : ¬ (1 ≤ k ∧ k ≤ 6)) (hN : N ≤ 70000000000000) :
    Calls Try.prog 62 #[.slice A N c, .int .i64 n, .int .i64 k] w fun e w' => Out 5 w (bv l) e w' := by
  have hbd := h.bnd
  have HR := Lib.hid (h.alloc (.cells #[] 5))
  have q3 : 0 + N ≤ 70368744177664 := by omega
  have q4 : ∀ o, w.heap.size ≤ (w.alloc o).heap.size := fun o => by simp
  clear h
  by_cases h1 : k < 1
  · clear hk
    go_enter Try.func62, Try.ntmps62
    go_wp2_with (at_builtin; refine append_bytes _ rfl _ _ rfl w.heap.size _ _ _ [] rfl (Lib.hid (own_empty w _)) _ _ _ l rfl HR.out q3 (q4 _) ?_; intro A1 c1 W1 HO hb1)
    go_ret
    have ho := HO.out
    rw [Nat.zero_add, List.nil_append] at ho
    exact ⟨_, _, _, rfl, Ow.of_own ho, (balloc (Below.refl _ _) _).trans hb1⟩
  · have h2 : 6 < k := by omega
    clear hk
    go_enter Try.func62, Try.ntmps62
    go_wp2_with (at_builtin; refine append_bytes _ rfl _ _ rfl w.heap.size _ _ _ [] rfl (Lib.hid (own_empty w _)) _ _ _ l rfl HR.out q3 (q4 _) ?_; intro A1 c1 W1 HO hb1)
    go_ret
    have ho := HO.out
    rw [Nat.zero_add, List.nil_append] at ho
    exact ⟨_, _, _, rfl, Ow.of_own ho, (balloc (Below.refl _ _) _).trans hb1⟩

theorem I_PutN (A : Option Addr) (N c : Nat) (l : List UInt8) (n k : Int) (w : World) (h : Rd w A N c (bv l)) (hN : N ≤ 70000000000000) :
    Calls Try.prog 62 #[.slice A N c, .int .i64 n, .int .i64 k] w fun e w' => Out 5 w (bv (putN l n k)) e w' := by
  by_cases hk : 1 ≤ k ∧ k ≤ 6
  · rw [putN, if_pos hk]
    obtain ⟨k, rfl⟩ := Int.eq_ofNat_of_zero_le (show 0 ≤ k by omega)
    exact I_PutN_yes A N c l n k w h (by omega) (by omega) hN
  · rw [putN, if_neg hk]
    exact I_PutN_no A N c l n k w h hk hN

end Go.Proofs.Ytnngiampfdjlfaa
