/- Contracts of BlockKey, of the reference and of the program: for every slice of bytes. -/
import Derived.Test.YtbjbncmhnhlkpaaMacM
import Derived.Test.YtbjbncmhnhlkpaaShaS
import Derived.Test.YtbjbncmhnhlkpaaShaI3
namespace Go.Proofs.Ytbjbncmhnhlkpaa
open Go.ChangeShapes Go.WideShapes Go.ChangeAt Go.RowKit
set_option linter.unusedVariables false

set_option maxHeartbeats 1000000 in
theorem S_BlockKey (A : Option Addr) (N c : Nat) (l : List UInt8) (w : World) (h : Rd w A N c (bv l)) :
    Calls Try.prog 79 #[.slice A N c] w fun e w' => Out 5 w (bv (blockL l)) e w' := by
  have hl : l.length = N := by have := h.len; rwa [bv_len] at this
  have hbd := h.bnd
  by_cases hN : N ≤ 1048576
  rotate_left
  · have HS := Lib.hid (show blockL l = [] by rw [blockL, if_neg (by omega)])
    have hN' : (1048576 : Int) < (N : Int) := by omega
    clear hl
    go_enter Try.func79, Try.ntmps79
    go_wp2_with fail
    exact bodyPost_ret (v := .slice (some ⟨w.heap.size, 0, none⟩) 0 0) (by simp [results, Try.results79, go_sem]) rfl (by rw [HS.out]; exact out_lit w _ #[] 0 rfl (by omega))
  have hN' : ¬ (1048576 : Int) < (N : Int) := by omega
  have HB := Lib.hid (show blockL l = padTo (shortL l) by rw [blockL, if_pos (by omega)])
  have HSL := Lib.hid (shortL_le l)
  by_cases h64 : 64 < N
  case' pos =>
    have h64' : (64 : Int) < (N : Int) := by omega
    have HSH := Lib.hid (show shortL l = shaL l by rw [shortL, if_pos (by omega)])
    have HLL := Lib.hid hl
    clear hl
    have HOA := Lib.hid (own_empty w 5)
    have hra := h.alloc (.cells #[] 5)
    have q5 : 0 + N ≤ 70368744177664 := by omega
    have q6 : w.heap.size ≤ (w.alloc (.cells #[] 5)).heap.size := by simp
    go_enter Try.func79, Try.ntmps79
    go_wp2_with (at_builtin; refine append_bytes _ rfl _ _ rfl w.heap.size _ _ _ [] rfl HOA _ _ _ l rfl hra q5 q6 ?_; intro A1 c1 W1 HO1 hb1)
    have ho1 := HO1.out
    rw [Nat.zero_add, List.nil_append] at ho1
    have B1 : Below w.heap.size w W1 := (balloc (Below.refl _ _) _).trans hb1
    clear HO1 hra HOA q5 q6
    have C := Lib.hid (S_Sha A N c l W1 (h.below B1 (Nat.le_refl _)))
    rw [← HSH.out] at C
    go_wp2_with fail
    refine C.out.mono ?_
    rintro e W2 ⟨A2, n2, c2, rfl, o2', b2⟩
    have B2 := bnext B1 b2
    have o2 := (Ow.of_own o2'.own).less B1.size
    clear o2' b2 ho1 C
  case' neg =>
    have h64' : ¬ (64 : Int) < (N : Int) := by omega
    have HSH := Lib.hid (show shortL l = l by rw [shortL, if_neg (by omega)])
    have HLL := Lib.hid hl
    clear hl
    have HOA := Lib.hid (own_empty w 5)
    have hra := h.alloc (.cells #[] 5)
    have q5 : 0 + N ≤ 70368744177664 := by omega
    have q6 : w.heap.size ≤ (w.alloc (.cells #[] 5)).heap.size := by simp
    go_enter Try.func79, Try.ntmps79
    go_wp2_with (at_builtin; refine append_bytes _ rfl _ _ rfl w.heap.size _ _ _ [] rfl HOA _ _ _ l rfl hra q5 q6 ?_; intro A2 c2 W2 HO1 hb1)
    have ho1 := HO1.out
    rw [Nat.zero_add, List.nil_append] at ho1
    have B2 : Below w.heap.size w W2 := (balloc (Below.refl _ _) _).trans hb1
    clear HO1 hra HOA q5 q6
    rw [← HSH.out] at ho1
    obtain ⟨n2, hn2⟩ : ∃ n2, n2 = N := ⟨_, rfl⟩
    subst hn2
    have o2 := Ow.of_own ho1
    clear ho1
  all_goals
    generalize shortL l = s at *
    have hs2 : s.length = n2 := by have h1 := o2.rd.len; rw [bv_len] at h1; exact h1
    have hn64 : n2 ≤ 64 := by have := HSL.out; omega
    have HR := Lib.hid hs2
    have O2 := Lib.hid o2
    clear o2 hs2 HSL
    try go_wp2_with fail
    go_loopw [3] (fun v wr => ∃ (j m : Nat) (A' : Option Addr) (c' : Nat), v = .slice A' m c' ∧ n2 + j = m ∧ m ≤ 64 ∧
        Hid (Ow wr 5 A' m c' w.heap.size wr.heap.size (bv (s ++ List.replicate j 0))) ∧ Below w.heap.size w wr)
      (fun v _ => 64 - lenOf v)
    case atStart => exact ⟨0, n2, A2, c2, rfl, rfl, hn64, by rw [List.replicate_zero, List.append_nil]; exact O2.out, B2⟩
    case round =>
      obtain ⟨j, m, A3, c3, rfl, hm1, hm2, HO, hb⟩ := hrel
      by_cases hlt : m < 64
      · have hlt' : (m : Int) < 64 := by omega
        have HOA := Lib.hid (HO.out.own.alloc (.cells #[.int .u8 0] 5))
        have q5 : m + 1 ≤ 70368744177664 := by omega
        have q6 : ∀ o, w.heap.size ≤ (wr.alloc o).heap.size := fun o => by have := hb.size; simp; omega
        have HM := Lib.hid hm1
        clear hm1
        go_wp2_with (at_builtin; refine append_bytes _ rfl _ _ rfl w.heap.size _ _ _ (s ++ List.replicate j 0) rfl HOA _ _ _ [0] rfl (rd_one wr _ _) q5 (q6 _) ?_; intro A4 c4 W4 HO4 hb4)
        go_roundw
        case rel => exact ⟨j + 1, m + 1, A4, c4, rfl, by have := HM.out; omega, by omega, by rw [List.replicate_succ', ← List.append_assoc]; exact Ow.of_own HO4.out, (hb.alloc hb.size _).trans hb4⟩
        case measure => simp [lenOf]; omega
      · have hlt' : ¬ (m : Int) < 64 := by omega
        have hj : j = 64 - s.length := by have := HR.out; omega
        have HO5 := HO.out
        rw [hj, ← padTo, ← HB.out] at HO5
        have HO6 := Lib.hid HO5
        clear HO5 hj hm1
        go_wp2_with fail
        exact bodyPost_ret (v := .slice A3 m c3) (by simp [results, Try.results79, go_sem]) rfl ⟨_, _, _, rfl, HO6.out, hb⟩

set_option maxHeartbeats 1000000 in
theorem I_BlockKey (A : Option Addr) (N c : Nat) (l : List UInt8) (w : World) (h : Rd w A N c (bv l)) :
    Calls Try.prog 55 #[.slice A N c] w fun e w' => Out 5 w (bv (blockL l)) e w' := by
  have hl : l.length = N := by have := h.len; rwa [bv_len] at this
  have hbd := h.bnd
  by_cases hN : N ≤ 1048576
  rotate_left
  · have HS := Lib.hid (show blockL l = [] by rw [blockL, if_neg (by omega)])
    have hN' : (1048576 : Int) < (N : Int) := by omega
    clear hl
    go_enter Try.func55, Try.ntmps55
    go_wp2_with fail
    exact bodyPost_ret (v := .slice none 0 0) (by simp [results, Try.results55, go_sem]) rfl (by rw [HS.out]; exact ⟨_, _, _, rfl, Ow.nil_ _ _ _ _, Below.refl _ _⟩)
  have hN' : ¬ (1048576 : Int) < (N : Int) := by omega
  have HB := Lib.hid (show blockL l = padTo (shortL l) by rw [blockL, if_pos (by omega)])
  have HSL := Lib.hid (shortL_le l)
  by_cases h64 : 64 < N
  case' pos =>
    have h64' : (64 : Int) < (N : Int) := by omega
    have HSH := Lib.hid (show shortL l = shaL l by rw [shortL, if_pos (by omega)])
    have HLL := Lib.hid hl
    clear hl
    go_enter Try.func55, Try.ntmps55
    go_wp2_with fail
    refine (I_clone A N c l w h (by omega)).mono ?_
    rintro e W1 ⟨A1, N1, c1, rfl, o1, B1⟩
    have hn1 : N = N1 := by have h1 := o1.rd.len; have h2 := HLL.out; rw [bv_len] at h1; omega
    subst hn1
    have ho1 := o1.own
    clear o1
    have C := Lib.hid (I_Sha A N c l W1 (h.below B1 (Nat.le_refl _)))
    rw [← HSH.out] at C
    go_wp2_with fail
    refine C.out.mono ?_
    rintro e W2 ⟨A2, n2, c2, rfl, o2', b2⟩
    have B2 := bnext B1 b2
    have o2 := (Ow.of_own o2'.own).less B1.size
    clear o2' b2 ho1 C
  case' neg =>
    have h64' : ¬ (64 : Int) < (N : Int) := by omega
    have HSH := Lib.hid (show shortL l = l by rw [shortL, if_neg (by omega)])
    have HLL := Lib.hid hl
    clear hl
    go_enter Try.func55, Try.ntmps55
    go_wp2_with fail
    refine (I_clone A N c l w h (by omega)).mono ?_
    rintro e W2 ⟨A2, N1, c2, rfl, o1, B2⟩
    have hn1 : N = N1 := by have h1 := o1.rd.len; have h2 := HLL.out; rw [bv_len] at h1; omega
    subst hn1
    have ho1 := o1.own
    clear o1
    rw [← HSH.out] at ho1
    obtain ⟨n2, hn2⟩ : ∃ n2, n2 = N := ⟨_, rfl⟩
    subst hn2
    have o2 := Ow.of_own ho1
    clear ho1
  all_goals
    generalize shortL l = s at *
    have hs2 : s.length = n2 := by have h1 := o2.rd.len; rw [bv_len] at h1; exact h1
    have hn64 : n2 ≤ 64 := by have := HSL.out; omega
    have HR := Lib.hid hs2
    have O2 := Lib.hid o2
    clear o2 hs2 HSL
    try go_wp2_with fail
    go_loopw [3] (fun v wr => ∃ (j m : Nat) (A' : Option Addr) (c' : Nat), v = .slice A' m c' ∧ n2 + j = m ∧ m ≤ 64 ∧
        Hid (Ow wr 5 A' m c' w.heap.size wr.heap.size (bv (s ++ List.replicate j 0))) ∧ Below w.heap.size w wr)
      (fun v _ => 64 - lenOf v)
    case atStart => exact ⟨0, n2, A2, c2, rfl, rfl, hn64, by rw [List.replicate_zero, List.append_nil]; exact O2.out, B2⟩
    case round =>
      obtain ⟨j, m, A3, c3, rfl, hm1, hm2, HO, hb⟩ := hrel
      by_cases hlt : m < 64
      · have hlt' : (m : Int) < 64 := by omega
        have HOA := Lib.hid (HO.out.own.alloc (.cells #[.int .u8 0] 5))
        have q5 : m + 1 ≤ 70368744177664 := by omega
        have q6 : ∀ o, w.heap.size ≤ (wr.alloc o).heap.size := fun o => by have := hb.size; simp; omega
        have HM := Lib.hid hm1
        clear hm1
        go_wp2_with (at_builtin; refine append_bytes _ rfl _ _ rfl w.heap.size _ _ _ (s ++ List.replicate j 0) rfl HOA _ _ _ [0] rfl (rd_one wr _ _) q5 (q6 _) ?_; intro A4 c4 W4 HO4 hb4)
        go_roundw
        case rel => exact ⟨j + 1, m + 1, A4, c4, rfl, by have := HM.out; omega, by omega, by rw [List.replicate_succ', ← List.append_assoc]; exact Ow.of_own HO4.out, (hb.alloc hb.size _).trans hb4⟩
        case measure => simp [lenOf]; omega
      · have hlt' : ¬ (m : Int) < 64 := by omega
        have hj : j = 64 - s.length := by have := HR.out; omega
        have HO5 := HO.out
        rw [hj, ← padTo, ← HB.out] at HO5
        have HO6 := Lib.hid HO5
        clear HO5 hj hm1
        go_wp2_with fail
        exact bodyPost_ret (v := .slice A3 m c3) (by simp [results, Try.results55, go_sem]) rfl ⟨_, _, _, rfl, HO6.out, hb⟩

end Go.Proofs.Ytbjbncmhnhlkpaa
