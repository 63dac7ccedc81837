/- Contract of the program's Hmac. -/
import Derived.Test.YtbjbncmhnhlkpaaMac1
import Derived.Test.YtbjbncmhnhlkpaaMac2
import Derived.Test.YtbjbncmhnhlkpaaJoin
namespace Go.Proofs.Ytbjbncmhnhlkpaa
open Go.ChangeShapes Go.WideShapes Go.ChangeAt Go.RowKit
set_option linter.unusedVariables false

set_option maxHeartbeats 1000000 in
theorem I_Hmac (A B : Option Addr) (n c m d : Nat) (k b : List UInt8) (w : World) (h : Rd w A n c (bv k)) (g : Rd w B m d (bv b)) :
    Calls Try.prog 43 #[.slice A n c, .slice B m d] w fun e w' => Out 5 w (bv (hmacL k b)) e w' := by
  have hk : k.length = n := by have := h.len; rwa [bv_len] at this
  have hbl : b.length = m := by have := g.len; rwa [bv_len] at this
  have hbd := h.bnd
  have hbd2 := g.bnd
  by_cases hn : n ≤ 1048576
  rotate_left
  · have HS := Lib.hid (show hmacL k b = [] by rw [hmacL, if_neg (by omega)])
    have hn' : (1048576 : Int) < (n : Int) := by omega
    clear hk hbl
    go_enter Try.func43, Try.ntmps43
    go_wp2_with fail
    exact bodyPost_ret (v := .slice none 0 0) (by simp [results, Try.results43, go_sem]) rfl (by rw [HS.out]; exact ⟨_, _, _, rfl, Ow.nil_ _ _ _ _, Below.refl _ _⟩)
  by_cases hm : m ≤ 1048512
  rotate_left
  · have HS := Lib.hid (show hmacL k b = [] by rw [hmacL, if_neg (by omega)])
    have hn' : ¬ (1048576 : Int) < (n : Int) := by omega
    have hm' : (1048512 : Int) < (m : Int) := by omega
    clear hk hbl
    go_enter Try.func43, Try.ntmps43
    go_wp2_with fail
    exact bodyPost_ret (v := .slice none 0 0) (by simp [results, Try.results43, go_sem]) rfl (by rw [HS.out]; exact ⟨_, _, _, rfl, Ow.nil_ _ _ _ _, Below.refl _ _⟩)
  have HE := Lib.hid (show hmacL k b = shaL (maskL (blockL k) 92 ++ shaL (maskL (blockL k) 54 ++ b)) by rw [hmacL, if_pos ⟨by omega, by omega⟩])
  have HB := Lib.hid (blockL_len k (by omega))
  have hn' : ¬ (1048576 : Int) < (n : Int) := by omega
  have hm' : ¬ (1048512 : Int) < (m : Int) := by omega
  clear hk hbl
  go_enter Try.func43, Try.ntmps43
  go_wp2_with fail
  refine (I_BlockKey A n c k w h).mono ?_
  rintro e W1 ⟨A1, n1, c1, rfl, o1, B1⟩
  have hn1 : 64 = n1 := by have h1 := o1.rd.len; rw [bv_len, HB.out] at h1; exact h1
  subst hn1
  generalize blockL k = kk at *
  have h1 := o1.rd
  clear o1
  go_wp2_with fail
  refine (I_masked A1 64 c1 kk 92 W1 h1 (by omega)).mono ?_
  rintro e W2 ⟨A2, n2, c2, rfl, o2, b2⟩
  have hn2 : 64 = n2 := by have h3 := o2.rd.len; rw [bv_len, maskL_len, HB.out] at h3; exact h3
  subst hn2
  have B2 := bnext B1 b2
  have h2 := h1.below b2 (Nat.le_refl _)
  go_wp2_with fail
  refine (I_masked A1 64 c1 kk 54 W2 h2 (by omega)).mono ?_
  rintro e W3 ⟨A3, n3, c3, rfl, o3, b3⟩
  have hn3 : 64 = n3 := by have h3 := o3.rd.len; rw [bv_len, maskL_len, HB.out] at h3; exact h3
  subst hn3
  have B3 := bnext B2 b3
  have r2 := o2.rd.below b3 (Nat.le_refl _)
  have r3 := o3.rd
  have gr := g.below B3 (Nat.le_refl _)
  clear o2 o3 h1 h2
  go_wp2_with fail
  refine (I_joined2 A3 B 64 c3 m d (maskL kk 54) b W3 _ r3 gr (by omega) (by omega)).mono ?_
  rintro e W4 ⟨A4, n4, c4, rfl, o4, b4⟩
  have B4 := bnext B3 b4
  have r4 := o4.rd
  go_wp2_with fail
  refine (I_Sha A4 n4 c4 _ W4 r4).mono ?_
  rintro e W5 ⟨A5, n5, c5, rfl, o5, b5⟩
  have hd1 := shaL_le (maskL kk 54 ++ b)
  generalize shaL (maskL kk 54 ++ b) = d1 at *
  have hn5 : n5 ≤ 32 := by have := o5.rd.len; rw [bv_len] at this; omega
  have B5 := bnext B4 b5
  have r5 := o5.rd
  have r2' := (r2.below b4 (Nat.le_refl _)).below b5 (Nat.le_refl _)
  clear r2
  go_wp2_with fail
  refine (I_joined2 A2 A5 64 c2 n5 c5 (maskL kk 92) d1 W5 _ r2' r5 (by omega) (by omega)).mono ?_
  rintro e W6 ⟨A6, n6, c6, rfl, o6, b6⟩
  have B6 := bnext B5 b6
  have r6 := o6.rd
  have D := Lib.hid (I_Sha A6 n6 c6 _ W6 r6)
  rw [← HE.out] at D
  go_wp2_with fail
  refine D.out.mono ?_
  rintro e W7 ⟨A7, n7, c7, rfl, o7, b7⟩
  go_wp2_with fail
  exact bodyPost_ret (v := .slice A7 n7 c7) (by simp [results, Try.results43, go_sem]) rfl ⟨_, _, _, rfl, o7.less B6.size, bnext B6 b7⟩

end Go.Proofs.Ytbjbncmhnhlkpaa
