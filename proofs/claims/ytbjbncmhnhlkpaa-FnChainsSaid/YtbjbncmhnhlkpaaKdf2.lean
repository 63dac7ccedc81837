/- Contracts of Derive and Chain, of the reference and of the program. -/
import Derived.Test.YtbjbncmhnhlkpaaKdf1
import Derived.Lib.ConvBytes
namespace Go.Proofs.Ytbjbncmhnhlkpaa
open Go.ChangeShapes Go.WideShapes Go.ChangeAt Go.RowKit
set_option linter.unusedVariables false

theorem conv_below (w : World) (t : TypeId) (s : ByteArray) : Below w.heap.size w (Lib.bytesWorld w t s) :=
  ⟨rfl, rfl, rfl, by rw [Lib.bytesWorld_size]; omega, fun k hk => Lib.bytesWorld_at_old w t s k hk⟩
/-- What '[]byte(s)' lays. -/
theorem conv_rd (w : World) (t : TypeId) (s : ByteArray) (hs : s.size ≤ maxLen) : Rd (Lib.bytesWorld w t s) (some ⟨w.heap.size, 0, none⟩) s.size (grownCap w s.size 0 t) (bv s.data.toList) := by
  refine ⟨by rw [bv_len]; simp, grownCap_ge _ _ _ _, grownCap_le_maxLen w s.size 0 t hs, fun _ => ⟨_, _, rfl, by rw [Lib.bytesWorld_size]; omega, fun j u hu => ?_⟩⟩
  have hj : j < s.data.toList.length := by have := (List.getElem?_eq_some_iff.1 hu).1; rwa [bv_len] at this
  rw [bv_get hj] at hu
  injection hu with hu
  have hj' : j < s.data.size := by simpa using hj
  rw [← hu, Nat.zero_add, Lib.bytesWorld_cell w t s j (by simpa using hj)]
  simp only [List.getD, Array.getElem?_toList, Array.getElem_toList]
  rw [Array.getElem?_eq_getElem hj']
  rfl

theorem S_Derive (A : Option Addr) (n c : Nat) (k : List UInt8) (s : ByteArray) (w : World) (h : Rd w A n c (bv k)) (hs : s.size ≤ 1048576) :
    Calls Try.prog 21 #[.slice A n c, .string s] w fun e w' => Out 5 w (bv (deriveL k s.data.toList)) e w' := by
  have hcv := fun W => Lib.run_convert_string_bytes (P := Try.prog) W 9 22 5 s (u := .string) Try.underlying9 Try.underlying22 Try.underlying5
  have hB := conv_below w 5 s
  have C := Lib.hid (S_Expand A (some ⟨w.heap.size, 0, none⟩) n c s.size (grownCap w s.size 0 5) k s.data.toList 32 (Lib.bytesWorld w 5 s) (h.below hB (Nat.le_refl _)) (conv_rd w 5 s (by unfold maxLen; omega)))
  go_enter Try.func21, Try.ntmps21
  go_wp2_with fail
  refine C.out.mono ?_
  rintro e W1 ⟨A1, n1, c1, rfl, o1, b1⟩
  have B1 := bnext hB b1
  have s1 := hB.size
  generalize expB k s.data.toList 32 = ok at *
  clear hcv hB
  go_wp2_with fail
  exact bodyPost_ret (v := .slice A1 n1 c1) (by simp [results, Try.results21, go_sem]) rfl ⟨_, _, _, rfl, o1.less s1, B1⟩

set_option maxHeartbeats 1000000 in
theorem S_Chain (A : Option Addr) (n c : Nat) (k : List UInt8) (q : Int) (w : World) (h : Rd w A n c (bv k)) (hn : n ≤ 1048576) :
    Calls Try.prog 25 #[.slice A n c, .int .i64 q] w fun e w' => Out 5 w (bv (chainL k q)) e w' := by
  have hkl : k.length = n := by have := h.len; rwa [bv_len] at this
  have hbd := h.bnd
  by_cases hi : 0 ≤ q ∧ q ≤ 64
  rotate_left
  · have HS := Lib.hid (show chainL k q = [] by rw [chainL, if_neg hi])
    have C := Lib.hid (S_in_no q 0 64 w hi)
    clear hkl hi
    go_enter Try.func25, Try.ntmps25
    go_wp2_with fail
    refine C.out.mono ?_
    rintro e w' ⟨rfl, rfl⟩
    go_wp2_with fail
    exact bodyPost_ret (v := .slice (some ⟨w.heap.size, 0, none⟩) 0 0) (by simp [results, Try.results25, go_sem]) rfl (by rw [HS.out]; exact ⟨_, _, _, rfl, Ow.of_own (own_empty w _), balloc (Below.refl _ _) _⟩)
  have C := Lib.hid (S_in_yes q 0 64 w hi)
  obtain ⟨N, rfl⟩ := Int.eq_ofNat_of_zero_le hi.1
  have HS := Lib.hid (show chainL k (N : Int) = chainN k N by rw [chainL, if_pos hi, Int.toNat_natCast])
  have hN : N ≤ 64 := by omega
  have HLL := Lib.hid hkl
  have HR := Lib.hid (show (⟨#[114, 101, 107, 101, 121]⟩ : ByteArray).data.toList = rekeyL from rfl)
  have HZ := Lib.hid (show (⟨#[114, 101, 107, 101, 121]⟩ : ByteArray).size ≤ 1048576 by decide)
  clear hkl hi
  go_enter Try.func25, Try.ntmps25
  go_wp2_with fail
  refine C.out.mono ?_
  rintro e w' ⟨rfl, rfl⟩
  have HOA := Lib.hid (own_empty w 5)
  have hra := h.alloc (.cells #[] 5)
  have q5 : 0 + n ≤ 70368744177664 := by omega
  have q6 : w.heap.size ≤ (w.alloc (.cells #[] 5)).heap.size := by simp
  go_wp2_with (at_builtin; refine append_bytes _ rfl _ _ rfl w.heap.size _ _ _ [] rfl HOA _ _ _ k rfl hra q5 q6 ?_; intro A1 c1 W1 HO1 hb1)
  have ho1 := HO1.out
  rw [Nat.zero_add, List.nil_append] at ho1
  have B1 : Below w.heap.size w W1 := (balloc (Below.refl _ _) _).trans hb1
  have o1 := Ow.of_own ho1
  clear HO1 hra HOA q5 q6 ho1 hb1
  go_loopw [5, 6] (fun v i wr => ∃ (j p c2 : Nat) (A2 : Option Addr), v = .slice A2 p c2 ∧ i = .int .i64 j ∧ j ≤ N ∧ Hid (Ow wr 5 A2 p c2 w.heap.size wr.heap.size (bv (chainN k j))) ∧ Below w.heap.size w wr)
    (fun _ i _ => N - (intOf i).toNat)
  case atStart => exact ⟨0, n, c1, A1, rfl, rfl, by omega, o1, B1⟩
  case round =>
    obtain ⟨j, p, c2, A2, rfl, rfl, hj, HO, hb⟩ := hrel
    by_cases hlt : j < N
    · have hlt' : (j : Int) < (N : Int) := by omega
      have D := Lib.hid (S_Derive A2 p c2 (chainN k j) ⟨#[114, 101, 107, 101, 121]⟩ wr HO.out.rd HZ.out)
      rw [HR.out, ← show chainN k (j + 1) = deriveL (chainN k j) rekeyL from rfl] at D
      go_wp2_with fail
      refine D.out.mono ?_
      rintro e W2 ⟨A3, p3, c3, rfl, o3, b3⟩
      have o4 := o3.less hb.size
      have B4 := bnext hb b3
      go_wp2_with fail
      go_roundw
      case rel => exact ⟨j + 1, p3, c3, A3, rfl, by go_num, by omega, o4, B4⟩
      case measure => simp [intOf]; omega
    · have hlt' : ¬ (j : Int) < (N : Int) := by omega
      obtain rfl : j = N := by omega
      go_wp2_with fail
      exact bodyPost_ret (v := .slice A2 p c2) (by simp [results, Try.results25, go_sem]) rfl (by rw [HS.out]; exact ⟨_, _, _, rfl, HO.out, hb⟩)

theorem I_Derive (A : Option Addr) (n c : Nat) (k : List UInt8) (s : ByteArray) (w : World) (h : Rd w A n c (bv k)) (hs : s.size ≤ 1048576) :
    Calls Try.prog 22 #[.slice A n c, .string s] w fun e w' => Out 5 w (bv (deriveL k s.data.toList)) e w' := by
  have hcv := fun W => Lib.run_convert_string_bytes (P := Try.prog) W 9 22 5 s (u := .string) Try.underlying9 Try.underlying22 Try.underlying5
  have hB := conv_below w 5 s
  have C := Lib.hid (I_Expand A (some ⟨w.heap.size, 0, none⟩) n c s.size (grownCap w s.size 0 5) k s.data.toList 32 (Lib.bytesWorld w 5 s) (h.below hB (Nat.le_refl _)) (conv_rd w 5 s (by unfold maxLen; omega)))
  go_enter Try.func22, Try.ntmps22
  go_wp2_with fail
  refine C.out.mono ?_
  rintro e W1 ⟨A1, n1, c1, rfl, o1, b1⟩
  have B1 := bnext hB b1
  have s1 := hB.size
  generalize expB k s.data.toList 32 = ok at *
  clear hcv hB
  go_wp2_with fail
  exact bodyPost_ret (v := .slice A1 n1 c1) (by simp [results, Try.results22, go_sem]) rfl ⟨_, _, _, rfl, o1.less s1, B1⟩

set_option maxHeartbeats 1000000 in
theorem I_Chain (A : Option Addr) (n c : Nat) (k : List UInt8) (q : Int) (w : World) (h : Rd w A n c (bv k)) (hn : n ≤ 1048576) :
    Calls Try.prog 26 #[.slice A n c, .int .i64 q] w fun e w' => Out 5 w (bv (chainL k q)) e w' := by
  have hkl : k.length = n := by have := h.len; rwa [bv_len] at this
  have hbd := h.bnd
  by_cases hi : 0 ≤ q ∧ q ≤ 64
  rotate_left
  · have HS := Lib.hid (show chainL k q = [] by rw [chainL, if_neg hi])
    have C := Lib.hid (I_in_no q 0 64 w hi)
    clear hkl hi
    go_enter Try.func26, Try.ntmps26
    go_wp2_with fail
    refine C.out.mono ?_
    rintro e w' ⟨rfl, rfl⟩
    go_wp2_with fail
    exact bodyPost_ret (v := .slice none 0 0) (by simp [results, Try.results26, go_sem]) rfl (by rw [HS.out]; exact ⟨_, _, _, rfl, Ow.nil_ _ _ _ _, Below.refl _ _⟩)
  have C := Lib.hid (I_in_yes q 0 64 w hi)
  obtain ⟨N, rfl⟩ := Int.eq_ofNat_of_zero_le hi.1
  have HS := Lib.hid (show chainL k (N : Int) = chainN k N by rw [chainL, if_pos hi, Int.toNat_natCast])
  have hN : N ≤ 64 := by omega
  have HLL := Lib.hid hkl
  have HR := Lib.hid (show (⟨#[114, 101, 107, 101, 121]⟩ : ByteArray).data.toList = rekeyL from rfl)
  have HZ := Lib.hid (show (⟨#[114, 101, 107, 101, 121]⟩ : ByteArray).size ≤ 1048576 by decide)
  clear hkl hi
  go_enter Try.func26, Try.ntmps26
  go_wp2_with fail
  refine C.out.mono ?_
  rintro e w' ⟨rfl, rfl⟩
  go_wp2_with fail
  refine (I_clone A n c k w h (by omega)).mono ?_
  rintro e W1 ⟨A1, n1, c1, rfl, o1, B1⟩
  have hn1 : n = n1 := by have h1 := o1.rd.len; have h2 := HLL.out; rw [bv_len] at h1; omega
  subst hn1
  go_wp2_with fail
  go_loopw [5, 6] (fun v i wr => ∃ (j p c2 : Nat) (A2 : Option Addr), v = .slice A2 p c2 ∧ i = .int .i64 j ∧ j ≤ N ∧ Hid (Ow wr 5 A2 p c2 w.heap.size wr.heap.size (bv (chainN k j))) ∧ Below w.heap.size w wr)
    (fun _ i _ => N - (intOf i).toNat)
  case atStart => exact ⟨0, n, c1, A1, rfl, rfl, by omega, o1, B1⟩
  case round =>
    obtain ⟨j, p, c2, A2, rfl, rfl, hj, HO, hb⟩ := hrel
    by_cases hlt : j < N
    · have hlt' : (j : Int) < (N : Int) := by omega
      have D := Lib.hid (I_Derive A2 p c2 (chainN k j) ⟨#[114, 101, 107, 101, 121]⟩ wr HO.out.rd HZ.out)
      rw [HR.out, ← show chainN k (j + 1) = deriveL (chainN k j) rekeyL from rfl] at D
      go_wp2_with fail
      refine D.out.mono ?_
      rintro e W2 ⟨A3, p3, c3, rfl, o3, b3⟩
      have o4 := o3.less hb.size
      have B4 := bnext hb b3
      go_wp2_with fail
      go_roundw
      case rel => exact ⟨j + 1, p3, c3, A3, rfl, by go_num, by omega, o4, B4⟩
      case measure => simp [intOf]; omega
    · have hlt' : ¬ (j : Int) < (N : Int) := by omega
      obtain rfl : j = N := by omega
      go_wp2_with fail
      exact bodyPost_ret (v := .slice A2 p c2) (by simp [results, Try.results26, go_sem]) rfl (by rw [HS.out]; exact ⟨_, _, _, rfl, HO.out, hb⟩)

end Go.Proofs.Ytbjbncmhnhlkpaa
