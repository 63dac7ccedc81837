/- Contracts of ParseHex, of the reference and of the program: for every string. -/
import Derived.Test.YtfhpigfoeejhlaaHex
import Derived.Test.YtfhpigfoeejhlaaCut
import Derived.Deep.RegionHeld3
namespace Go.Proofs.Ytfhpigfoeejhlaa
open Go.ChangeShapes Go.WideShapes Go.ChangeAt Go.RowKit
set_option linter.unusedVariables false

theorem parseL_no (s : List UInt8) (h : ¬ hexOk s) : parseL s = [] ∧ parseB s = false := ⟨by rw [parseL, if_neg h], by rw [parseB, decide_eq_false h]; rfl⟩
theorem parse_none (s : List UInt8) (k : Nat) (hs : hexOk s) (h : pairs s k = none) (hk : k ≤ s.length / 2) : parseL s = [] ∧ parseB s = false := by
  have h2 := pairs_none s k (s.length / 2) h hk
  exact ⟨by rw [parseL, if_pos hs, h2]; rfl, by rw [parseB, h2]; simp⟩
theorem parse_some (s l : List UInt8) (hs : hexOk s) (h : pairs s (s.length / 2) = some l) : parseL s = l ∧ parseB s = true :=
  ⟨by rw [parseL, if_pos hs, h]; rfl, by rw [parseB, h, decide_eq_true hs]; rfl⟩
theorem pairs_yes (s l : List UInt8) (k : Nat) (h : pairs s k = some l) (h1 : 0 ≤ digV (s.getD (2 * k) 0)) (h2 : 0 ≤ digV (s.getD (2 * k + 1) 0)) :
    pairs s (k + 1) = some (l ++ [UInt8.ofNat (16 * digV (s.getD (2 * k) 0) + digV (s.getD (2 * k + 1) 0)).toNat]) := by
  rw [pairs, h]
  exact if_pos ⟨h1, h2⟩
theorem pairs_no (s l : List UInt8) (k : Nat) (h : pairs s k = some l) (h1 : ¬ (0 ≤ digV (s.getD (2 * k) 0) ∧ 0 ≤ digV (s.getD (2 * k + 1) 0))) : pairs s (k + 1) = none := by
  rw [pairs, h]
  exact if_neg h1
theorem rd_hex (W : World) (t : TypeId) (x : Int) (h : 0 ≤ x ∧ x < 256) : Rd (W.alloc (.cells #[.int .u8 x] t)) (some ⟨W.heap.size, 0, none⟩) 1 1 (bv [UInt8.ofNat x.toNat]) := by
  have h0 := rd_one W t (.int .u8 x)
  have e : bv [UInt8.ofNat x.toNat] = [.int .u8 x] := by
    show [Value.int .u8 (((UInt8.ofNat x.toNat).toNat : Nat) : Int)] = _
    rw [UInt8.toNat_ofNat']
    congr 2
    omega
  rw [e]
  exact h0

set_option maxHeartbeats 1000000 in
theorem S_ParseHex (s : ByteArray) (w : World) (hs : s.size ≤ 1048576) :
    Calls Try.prog 33 #[.string s] w fun e w' => Out2 5 w (bv (parseL s.data.toList)) (parseB s.data.toList) e w' := by
  have hlen : s.data.toList.length = s.size := by simp
  by_cases hok : hexOk s.data.toList
  rotate_left
  · obtain ⟨HL, HB⟩ := parseL_no _ hok
    rw [HL, HB]
    have hh : ¬ (s.size ≤ 400 ∧ s.size % 2 = 0) := fun x => hok ⟨by omega, by omega⟩
    by_cases h1 : s.size % 2 = 0
    · have h2 : (400 : Int) < (s.size : Int) := by omega
      have h3 : ((s.size : Int)).tmod 2 = 0 := by rw [Int.tmod_eq_emod_of_nonneg (by omega)]; omega
      have h4 : (s.size : Int) % 2 = 0 := by omega
      clear hh hok HL HB hlen h1
      go_enter Try.func33, Try.ntmps33
      go_wp2_with fail
      exact bodyPost_ret (v := .tuple #[.slice (some ⟨w.heap.size, 0, none⟩) 0 0, .bool false]) (by simp [results, Try.results33, go_sem]) rfl ⟨_, _, _, rfl, Ow.of_own (own_empty w _), balloc (Below.refl _ _) _⟩
    · have h4 : (s.size : Int) % 2 = 1 := by omega
      clear hh hok HL HB hlen h1
      go_enter Try.func33, Try.ntmps33
      go_wp2_with fail
      exact bodyPost_ret (v := .tuple #[.slice (some ⟨w.heap.size, 0, none⟩) 0 0, .bool false]) (by simp [results, Try.results33, go_sem]) rfl ⟨_, _, _, rfl, Ow.of_own (own_empty w _), balloc (Below.refl _ _) _⟩
  have HOK := Lib.hid hok
  obtain ⟨hl, hm⟩ := hok
  rw [hlen] at hl hm
  obtain ⟨N, hN⟩ : ∃ N, s.size = 2 * N := ⟨s.size / 2, by omega⟩
  have HN := Lib.hid hN
  have h2 : ¬ (400 : Int) < (s.size : Int) := by omega
  have h4 : (s.size : Int) % 2 = 0 := by omega
  have HLL := Lib.hid hlen
  clear hl hm hN hlen
  go_enter Try.func33, Try.ntmps33
  go_wp2_with fail
  go_loopw [4, 5] (fun v i wr => ∃ (k p c' : Nat) (A' : Option Addr) (l : List UInt8), v = .slice A' k c' ∧ i = .int .i64 p ∧ Hid (p = 2 * k) ∧ k ≤ N ∧ Hid (pairs s.data.toList k = some l) ∧
      Hid (wr.ownsRow w.heap.size 5 1 (.slice A' k c') k (bv l)) ∧ Below w.heap.size w wr)
    (fun v i _ => 2 * N - (intOf i).toNat)
  case atStart => exact ⟨0, 0, 0, _, [], rfl, rfl, rfl, by omega, rfl, own_empty w _, balloc (Below.refl _ _) _⟩
  case round =>
    obtain ⟨k, p, c', A', l, rfl, rfl, HP, hk, HQ, HO, hb⟩ := hrel
    by_cases hlt : k < N
    · have hlt' : (p : Int) < (s.size : Int) := by have := HN.out; have := HP.out; omega
      have i1 := fun W => str_ix 9 Try.underlying9 s .i64 p (by have := HN.out; have := HP.out; omega) W
      have i2 := fun W => str_ix 9 Try.underlying9 s .i64 (p + 1) (by have := HN.out; have := HP.out; omega) W
      rw [HP.out] at i1 i2
      have e2 : (((2 * k + 1 : Nat)) : Int) = (p : Int) + 1 := by have := HP.out; omega
      have e1 : (((2 * k : Nat)) : Int) = (p : Int) := by have := HP.out; omega
      rw [e1] at i1
      rw [e2] at i2
      have HY := Lib.hid (pairs_yes s.data.toList l k HQ.out)
      have HX := Lib.hid (pairs_no s.data.toList l k HQ.out)
      have HZ := Lib.hid (fun h => parse_none s.data.toList (k + 1) HOK.out h (by rw [HLL.out, HN.out]; omega))
      generalize s.data.toList.getD (2 * k) 0 = y1 at *
      generalize s.data.toList.getD (2 * k + 1) 0 = y2 at *
      have v1 := digV_le y1
      have v2 := digV_le y2
      have C1 := Lib.hid (fun W => S_digit y1 W)
      have C2 := Lib.hid (fun W => S_digit y2 W)
      generalize digV y1 = d1 at *
      generalize digV y2 = d2 at *
      clear e1 e2
      go_wp2_with fail
      refine (C1.out _).mono ?_
      rintro e W ⟨rfl, rfl⟩
      go_wp2_with fail
      refine (C2.out _).mono ?_
      rintro e W ⟨rfl, rfl⟩
      clear i1 i2
      by_cases g1 : 0 ≤ d1
      · by_cases g2 : 0 ≤ d2
        · have HQ2 := Lib.hid (HY.out g1 g2)
          have m1 : ¬ d1 < 0 := by omega
          have m2 : ¬ d2 < 0 := by omega
          have x0 : 0 ≤ 16 * d1 + d2 ∧ 16 * d1 + d2 < 256 := by omega
          have x1 : (16 * d1 + d2) % 256 = 16 * d1 + d2 := by omega
          have HI := Lib.hid (HO.out.alloc (.cells #[.int .u8 (16 * d1 + d2)] 5))
          have hr1 := rd_hex wr 5 (16 * d1 + d2) x0
          have q5 : k + 1 ≤ 70368744177664 := by have := HN.out; omega
          have q6 : w.heap.size ≤ (wr.alloc (.cells #[.int .u8 (16 * d1 + d2)] 5)).heap.size := by have := hb.size; simp; omega
          clear HX HZ HY
          go_wp2_with (at_builtin; refine append_bytes _ rfl _ _ rfl w.heap.size _ _ _ _ rfl HI _ _ _ [UInt8.ofNat (16 * d1 + d2).toNat] rfl hr1 q5 q6 ?_; intro A1 c1 W1 HO1 hb1)
          have B1 := (balloc hb (.cells #[.int .u8 (16 * d1 + d2)] 5)).trans hb1
          go_roundw
          case rel => exact ⟨k + 1, p + 2, c1, A1, _, rfl, by go_num, by have := HP.out; show _ = _; omega, by omega, HQ2.out, HO1.out, B1⟩
          case measure => have := HP.out; simp [intOf]; omega
        · have m2 : d2 < 0 := by omega
          have m1 : ¬ d1 < 0 := by omega
          have HR := Lib.hid (HZ.out (HX.out (fun x => g2 x.2)))
          go_wp2_with fail
          exact bodyPost_ret (v := .tuple #[.slice (some ⟨wr.heap.size, 0, none⟩) 0 0, .bool false]) (by simp [results, Try.results33, go_sem]) rfl (by rw [HR.out.1, HR.out.2]; exact ⟨_, _, _, rfl, (Ow.of_own (own_empty wr _)).less hb.size, balloc hb _⟩)
      · have m1 : d1 < 0 := by omega
        have HR := Lib.hid (HZ.out (HX.out (fun x => g1 x.1)))
        go_wp2_with fail
        exact bodyPost_ret (v := .tuple #[.slice (some ⟨wr.heap.size, 0, none⟩) 0 0, .bool false]) (by simp [results, Try.results33, go_sem]) rfl (by rw [HR.out.1, HR.out.2]; exact ⟨_, _, _, rfl, (Ow.of_own (own_empty wr _)).less hb.size, balloc hb _⟩)
    · have hlt' : ¬ (p : Int) < (s.size : Int) := by have := HN.out; have := HP.out; omega
      obtain rfl : k = N := by omega
      have HR := Lib.hid (parse_some s.data.toList l HOK.out (by rw [HLL.out, HN.out, Nat.mul_div_cancel_left k (by omega)]; exact HQ.out))
      go_wp2_with fail
      exact bodyPost_ret (v := .tuple #[.slice A' k c', .bool true]) (by simp [results, Try.results33, go_sem]) rfl (by rw [HR.out.1, HR.out.2]; exact ⟨_, _, _, rfl, Ow.of_own HO.out, hb⟩)

theorem I_digit_q (c : UInt8) (w : World) : Calls Try.prog 73 #[.int .u8 ((c.toNat : Nat) : Int)] w fun e w' => e = .returned (.int .i64 (digV c)) ∧ ∃ m, w' = w.drewN m :=
  (I_digit c w).mono fun e w' ⟨he, hw⟩ => ⟨he, 0, by rw [← hw]; rfl⟩

set_option maxHeartbeats 1000000 in
theorem I_ParseHex (s : ByteArray) (w : World) (hs : s.size ≤ 1048576) :
    Calls Try.prog 31 #[.string s] w fun e w' => Out2 5 w (bv (parseL s.data.toList)) (parseB s.data.toList) e w' := by
  have hlen : s.data.toList.length = s.size := by simp
  by_cases hok : hexOk s.data.toList
  rotate_left
  · obtain ⟨HL, HB⟩ := parseL_no _ hok
    rw [HL, HB]
    have hh : ¬ (s.size ≤ 400 ∧ s.size % 2 = 0) := fun x => hok ⟨by omega, by omega⟩
    by_cases h1 : s.size % 2 = 0
    · have h2 : (400 : Int) < (s.size : Int) := by omega
      have h3 : ((s.size : Int)).tmod 2 = 0 := by rw [Int.tmod_eq_emod_of_nonneg (by omega)]; omega
      have h4 : (s.size : Int) % 2 = 0 := by omega
      clear hh hok HL HB hlen h1
      go_enter Try.func31, Try.ntmps31
      go_wp2_with fail
      exact bodyPost_ret (v := .tuple #[.slice none 0 0, .bool false]) (by simp [results, Try.results31, go_sem]) rfl ⟨_, _, _, rfl, Ow.of_own (World.ownsRow_nil _ _ _ _), Below.refl _ _⟩
    · have h4 : (s.size : Int) % 2 = 1 := by omega
      clear hh hok HL HB hlen h1
      by_cases h5 : (400 : Int) < (s.size : Int)
      · go_enter Try.func31, Try.ntmps31
        go_wp2_with fail
        exact bodyPost_ret (v := .tuple #[.slice none 0 0, .bool false]) (by simp [results, Try.results31, go_sem]) rfl ⟨_, _, _, rfl, Ow.of_own (World.ownsRow_nil _ _ _ _), Below.refl _ _⟩
      go_enter Try.func31, Try.ntmps31
      go_wp2_with fail
      exact bodyPost_ret (v := .tuple #[.slice none 0 0, .bool false]) (by simp [results, Try.results31, go_sem]) rfl ⟨_, _, _, rfl, Ow.of_own (World.ownsRow_nil _ _ _ _), Below.refl _ _⟩
  have HOK := Lib.hid hok
  obtain ⟨hl, hm⟩ := hok
  rw [hlen] at hl hm
  obtain ⟨N, hN⟩ : ∃ N, s.size = 2 * N := ⟨s.size / 2, by omega⟩
  have HN := Lib.hid hN
  have h2 : ¬ (400 : Int) < (s.size : Int) := by omega
  have h4 : (s.size : Int) % 2 = 0 := by omega
  have HLL := Lib.hid hlen
  clear hl hm hN hlen
  go_enter Try.func31, Try.ntmps31
  go_wp2_with fail
  go_loopw [4, 5] (fun v i wr => ∃ (k p c' : Nat) (A' : Option Addr) (l : List UInt8), v = .slice A' k c' ∧ i = .int .i64 p ∧ Hid (p = 2 * k) ∧ k ≤ N ∧ Hid (pairs s.data.toList k = some l) ∧
      Hid (wr.ownsRow w.heap.size 5 1 (.slice A' k c') k (bv l)) ∧ Below w.heap.size w wr)
    (fun v i _ => 2 * N - (intOf i).toNat)
  case atStart => exact ⟨0, 0, 0, _, [], rfl, rfl, rfl, by omega, rfl, own_empty w _, balloc (Below.refl _ _) _⟩
  case round =>
    obtain ⟨k, p, c', A', l, rfl, rfl, HP, hk, HQ, HO, hb⟩ := hrel
    by_cases hlt : k < N
    · have hlt' : (p : Int) < (s.size : Int) := by have := HN.out; have := HP.out; omega
      have i1 := fun W => str_ix 9 Try.underlying9 s .i64 p (by have := HN.out; have := HP.out; omega) W
      have i2 := fun W => str_ix 9 Try.underlying9 s .i64 (p + 1) (by have := HN.out; have := HP.out; omega) W
      rw [HP.out] at i1 i2
      have e2 : (((2 * k + 1 : Nat)) : Int) = (p : Int) + 1 := by have := HP.out; omega
      have e1 : (((2 * k : Nat)) : Int) = (p : Int) := by have := HP.out; omega
      rw [e1] at i1
      rw [e2] at i2
      have HY := Lib.hid (pairs_yes s.data.toList l k HQ.out)
      have HX := Lib.hid (pairs_no s.data.toList l k HQ.out)
      have HZ := Lib.hid (fun h => parse_none s.data.toList (k + 1) HOK.out h (by rw [HLL.out, HN.out]; omega))
      generalize s.data.toList.getD (2 * k) 0 = y1 at *
      generalize s.data.toList.getD (2 * k + 1) 0 = y2 at *
      have v1 := digV_le y1
      have v2 := digV_le y2
      clear e1 e2
      go_wp2_with fail
      go_quiet (first | (go_at_call 73; refine Calls.quiet_of (I_digit_q _ _)))
      generalize digV y1 = d1 at *
      generalize digV y2 = d2 at *
      clear i1 i2
      by_cases g1 : 0 ≤ d1
      · by_cases g2 : 0 ≤ d2
        · have HQ2 := Lib.hid (HY.out g1 g2)
          have m1 : ¬ d1 < 0 := by omega
          have m2 : ¬ d2 < 0 := by omega
          have x0 : 0 ≤ 16 * d1 + d2 ∧ 16 * d1 + d2 < 256 := by omega
          have x1 : (16 * d1 + d2) % 256 = 16 * d1 + d2 := by omega
          obtain ⟨V, hV⟩ : ∃ V, V = wr.drewN nq := ⟨_, rfl⟩
          have hbV : Below w.heap.size w V := by rw [hV]; exact bdrewN hb _
          have hOV : V.ownsRow w.heap.size 5 1 (.slice A' k c') k (bv l) := by rw [hV]; exact ((Ow.of_own HO.out).below (bdrewN (Below.refl wr.heap.size wr) _) (Nat.le_refl _)).own
          rw [← hV]
          clear hV
          have HI := Lib.hid (hOV.alloc (.cells #[.int .u8 (16 * d1 + d2)] 5))
          have hr1 := rd_hex V 5 (16 * d1 + d2) x0
          have q5 : k + 1 ≤ 70368744177664 := by have := HN.out; omega
          have q6 : w.heap.size ≤ (V.alloc (.cells #[.int .u8 (16 * d1 + d2)] 5)).heap.size := by have := hbV.size; simp; omega
          clear HX HZ HY
          go_wp2_with (at_builtin; refine append_bytes _ rfl _ _ rfl w.heap.size _ _ _ _ rfl HI _ _ _ [UInt8.ofNat (16 * d1 + d2).toNat] rfl hr1 q5 q6 ?_; intro A1 c1 W1 HO1 hb1)
          have B1 := (balloc hbV (.cells #[.int .u8 (16 * d1 + d2)] 5)).trans hb1
          go_roundw
          case rel => exact ⟨k + 1, p + 2, c1, A1, _, rfl, by go_num, by have := HP.out; show _ = _; omega, by omega, HQ2.out, HO1.out, B1⟩
          case measure => have := HP.out; simp [intOf]; omega
        · have m2 : d2 < 0 := by omega
          have m1 : ¬ d1 < 0 := by omega
          have HR := Lib.hid (HZ.out (HX.out (fun x => g2 x.2)))
          go_wp2_with fail
          exact bodyPost_ret (v := .tuple #[.slice none 0 0, .bool false]) (by simp [results, Try.results31, go_sem]) rfl (by rw [HR.out.1, HR.out.2]; exact ⟨_, _, _, rfl, Ow.of_own (World.ownsRow_nil _ _ _ _), bdrewN hb _⟩)
      · have m1 : d1 < 0 := by omega
        have HR := Lib.hid (HZ.out (HX.out (fun x => g1 x.1)))
        go_wp2_with fail
        exact bodyPost_ret (v := .tuple #[.slice none 0 0, .bool false]) (by simp [results, Try.results31, go_sem]) rfl (by rw [HR.out.1, HR.out.2]; exact ⟨_, _, _, rfl, Ow.of_own (World.ownsRow_nil _ _ _ _), bdrewN hb _⟩)
    · have hlt' : ¬ (p : Int) < (s.size : Int) := by have := HN.out; have := HP.out; omega
      obtain rfl : k = N := by omega
      have HR := Lib.hid (parse_some s.data.toList l HOK.out (by rw [HLL.out, HN.out, Nat.mul_div_cancel_left k (by omega)]; exact HQ.out))
      go_wp2_with fail
      exact bodyPost_ret (v := .tuple #[.slice A' k c', .bool true]) (by simp [results, Try.results31, go_sem]) rfl (by rw [HR.out.1, HR.out.2]; exact ⟨_, _, _, rfl, Ow.of_own HO.out, hb⟩)

end Go.Proofs.Ytfhpigfoeejhlaa
