/- Contracts of Tag, Extract and BlockOf, of the reference and of the program. -/
import Derived.Test.YtbjbncmhnhlkpaaMac3
import Derived.Test.YtbjbncmhnhlkpaaMac4
import Derived.Test.YtbjbncmhnhlkpaaPutN
namespace Go.Proofs.Ytbjbncmhnhlkpaa
open Go.ChangeShapes Go.WideShapes Go.ChangeAt Go.RowKit
set_option linter.unusedVariables false

theorem hmacL_two (k b : List UInt8) : (hmacL k b).length = 32 ∨ hmacL k b = [] := by
  by_cases h : k.length ≤ 1048576 ∧ b.length ≤ 1048512
  · exact .inl (hmacL_len k b h.1 h.2)
  · exact .inr (by rw [hmacL, if_neg h])

set_option maxHeartbeats 1000000 in
theorem S_BlockOf (A B : Option Addr) (n c m d : Nat) (k b : List UInt8) (i : Int) (w : World) (h : Rd w A n c (bv k)) (g : Rd w B m d (bv b)) :
    Calls Try.prog 61 #[.slice A n c, .slice B m d, .int .i64 i] w fun e w' => Out 5 w (bv (blockOfL k b i)) e w' := by
  have hbl : b.length = m := by have := g.len; rwa [bv_len] at this
  have hbd2 := g.bnd
  by_cases hi : 0 ≤ i ∧ i ≤ 6
  rotate_left
  · have HS := Lib.hid (show blockOfL k b i = [] by rw [blockOfL, if_neg (fun x => hi x.1)])
    have C := Lib.hid (S_in_no i 0 6 w hi)
    clear hbl hi
    go_enter Try.func61, Try.ntmps61
    go_wp2_with fail
    refine C.out.mono ?_
    rintro e w' ⟨rfl, rfl⟩
    go_wp2_with fail
    exact bodyPost_ret (v := .slice (some ⟨w.heap.size, 0, none⟩) 0 0) (by simp [results, Try.results61, go_sem]) rfl (by rw [HS.out]; exact out_lit w _ #[] 0 rfl (by omega))
  have C := Lib.hid (S_in_yes i 0 6 w hi)
  by_cases hh : m ≤ 100
  rotate_left
  · have HS := Lib.hid (show blockOfL k b i = [] by rw [blockOfL, if_neg (fun x => hh (by have := x.2; omega))])
    have hh' : (100 : Int) < (m : Int) := by omega
    clear hbl hi
    go_enter Try.func61, Try.ntmps61
    go_wp2_with fail
    refine C.out.mono ?_
    rintro e w' ⟨rfl, rfl⟩
    go_wp2_with fail
    exact bodyPost_ret (v := .slice (some ⟨w.heap.size, 0, none⟩) 0 0) (by simp [results, Try.results61, go_sem]) rfl (by rw [HS.out]; exact out_lit w _ #[] 0 rfl (by omega))
  have hh' : ¬ (100 : Int) < (m : Int) := by omega
  have HS := Lib.hid (show blockOfL k b i = hmacL k (putN (115 :: b) i 4) by rw [blockOfL, if_pos ⟨hi, by omega⟩])
  have HBL := Lib.hid hbl
  clear hbl hi
  go_enter Try.func61, Try.ntmps61
  go_wp2_with fail
  refine C.out.mono ?_
  rintro e w' ⟨rfl, rfl⟩
  have hoa : (w.alloc (.cells #[.int .u8 115] 5)).ownsRow w.heap.size 5 1 (.slice (some ⟨w.heap.size, 0, none⟩) 1 1) 1 (bv [115]) := World.ownsRow_lit w #[.int .u8 115] 1 (Nat.le_refl _) (by unfold maxLen; omega) rfl
  have HOA := Lib.hid hoa
  clear hoa
  have gr := g.alloc (.cells #[.int .u8 115] 5)
  have q5 : 1 + m ≤ 70368744177664 := by omega
  have q6 : w.heap.size ≤ (w.alloc (.cells #[.int .u8 115] 5)).heap.size := by simp
  go_wp2_with (at_builtin; refine append_bytes _ rfl _ _ rfl w.heap.size _ _ _ _ rfl HOA _ _ _ b rfl gr q5 q6 ?_; intro A1 c1 W1 HO1 hb1)
  have B1 : Below w.heap.size w W1 := (balloc (Below.refl _ _) _).trans hb1
  have r1 := own_rd HO1.out
  rw [List.singleton_append] at r1
  generalize hN1 : 1 + m = n1 at *
  have hn1 : n1 ≤ 101 := by omega
  clear hN1 HO1 HOA gr q5 q6
  refine (S_PutN A1 n1 c1 (115 :: b) i 4 W1 r1 (by omega)).mono ?_
  rintro e W2 ⟨A2, n2, c2, rfl, o2, b2⟩
  have B2 := bnext B1 b2
  have D := Lib.hid (S_Hmac A A2 n c n2 c2 k _ W2 (h.below B2 (Nat.le_refl _)) o2.rd)
  rw [← HS.out] at D
  go_wp2_with fail
  refine D.out.mono ?_
  rintro e W3 ⟨A3, n3, c3, rfl, o3, b3⟩
  go_wp2_with fail
  exact bodyPost_ret (v := .slice A3 n3 c3) (by simp [results, Try.results61, go_sem]) rfl ⟨_, _, _, rfl, o3.less B2.size, bnext B2 b3⟩

theorem I_Tag (A B : Option Addr) (n c m d : Nat) (k b : List UInt8) (w : World) (h : Rd w A n c (bv k)) (g : Rd w B m d (bv b)) :
    Calls Try.prog 41 #[.slice A n c, .slice B m d] w fun e w' => Out 5 w (bv (tagL k b)) e w' := by
  have C := Lib.hid (I_Hmac A B n c m d k b w h g)
  rcases hmacL_two k b with h32 | h0
  · have HT := Lib.hid (show tagL k b = (hmacL k b).take 16 from rfl)
    have H32 := Lib.hid h32
    clear h32
    go_enter Try.func41, Try.ntmps41
    go_wp2_with fail
    refine C.out.mono ?_
    rintro e W1 ⟨A1, n1, c1, rfl, o1, B1⟩
    have hn1 : 32 = n1 := by have h1 := o1.rd.len; rw [bv_len, H32.out] at h1; exact h1
    subst hn1
    have r1 := o1.rd
    have rb := r1.bnd
    obtain ⟨gb, go_, rfl, _, _⟩ := r1.at_ (by omega)
    have hC := r1.take_ (m := 16) (by omega)
    rw [bv_take, ← HT.out] at hC
    clear r1 o1
    have C := Lib.hid (I_clone _ _ _ _ W1 hC (by omega))
    go_wp2_with fail
    refine C.out.mono ?_
    rintro e W2 ⟨A2, n2, c2, rfl, o2, b2⟩
    go_wp2_with fail
    exact bodyPost_ret (v := .slice A2 n2 c2) (by simp [results, Try.results41, go_sem]) rfl ⟨_, _, _, rfl, o2.less B1.size, bnext B1 b2⟩
  · have HS := Lib.hid (show tagL k b = [] by rw [tagL, h0]; rfl)
    rw [h0] at C
    clear h0
    go_enter Try.func41, Try.ntmps41
    go_wp2_with fail
    refine C.out.mono ?_
    rintro e W1 ⟨A1, n1, c1, rfl, o1, B1⟩
    have hn1 : 0 = n1 := by have h1 := o1.rd.len; simpa [bv] using h1
    subst hn1
    go_wp2_with fail
    exact bodyPost_ret (v := .slice none 0 0) (by simp [results, Try.results41, go_sem]) rfl (by rw [HS.out]; exact ⟨_, _, _, rfl, Ow.nil_ _ _ _ _, B1⟩)

set_option maxHeartbeats 1000000 in
theorem I_BlockOf (A B : Option Addr) (n c m d : Nat) (k b : List UInt8) (i : Int) (w : World) (h : Rd w A n c (bv k)) (g : Rd w B m d (bv b)) :
    Calls Try.prog 34 #[.slice A n c, .slice B m d, .int .i64 i] w fun e w' => Out 5 w (bv (blockOfL k b i)) e w' := by
  have hbl : b.length = m := by have := g.len; rwa [bv_len] at this
  have hbd2 := g.bnd
  by_cases hi : 0 ≤ i ∧ i ≤ 6
  rotate_left
  · have HS := Lib.hid (show blockOfL k b i = [] by rw [blockOfL, if_neg (fun x => hi x.1)])
    have C := Lib.hid (I_in_no i 0 6 w hi)
    clear hbl hi
    go_enter Try.func34, Try.ntmps34
    go_wp2_with fail
    refine C.out.mono ?_
    rintro e w' ⟨rfl, rfl⟩
    go_wp2_with fail
    exact bodyPost_ret (v := .slice none 0 0) (by simp [results, Try.results34, go_sem]) rfl (by rw [HS.out]; exact ⟨_, _, _, rfl, Ow.nil_ _ _ _ _, Below.refl _ _⟩)
  have C := Lib.hid (I_in_yes i 0 6 w hi)
  by_cases hh : m ≤ 100
  rotate_left
  · have HS := Lib.hid (show blockOfL k b i = [] by rw [blockOfL, if_neg (fun x => hh (by have := x.2; omega))])
    have hh' : (100 : Int) < (m : Int) := by omega
    clear hbl hi
    go_enter Try.func34, Try.ntmps34
    go_wp2_with fail
    refine C.out.mono ?_
    rintro e w' ⟨rfl, rfl⟩
    go_wp2_with fail
    exact bodyPost_ret (v := .slice none 0 0) (by simp [results, Try.results34, go_sem]) rfl (by rw [HS.out]; exact ⟨_, _, _, rfl, Ow.nil_ _ _ _ _, Below.refl _ _⟩)
  have hh' : ¬ (100 : Int) < (m : Int) := by omega
  have HS := Lib.hid (show blockOfL k b i = hmacL k (putN (115 :: b) i 4) by rw [blockOfL, if_pos ⟨hi, by omega⟩])
  have HBL := Lib.hid hbl
  clear hbl hi
  go_enter Try.func34, Try.ntmps34
  go_wp2_with fail
  refine C.out.mono ?_
  rintro e w' ⟨rfl, rfl⟩
  go_wp2_with fail
  have r0 : Rd (w.alloc (.cells #[.int .u8 115] 5)) (some ⟨w.heap.size, 0, none⟩) 1 1 (bv [115]) := rd_one w 5 (.int .u8 115)
  have gr := g.alloc (.cells #[.int .u8 115] 5)
  have CJ := fun t => I_joined2 (some ⟨w.heap.size, 0, none⟩) B 1 1 m d [115] b (w.alloc (.cells #[.int .u8 115] 5)) t r0 gr (by omega) (by omega)
  rw [show (w.alloc (.cells #[.int .u8 115] 5)).heap.size = w.heap.size + 1 by simp] at CJ
  refine (CJ _).mono ?_
  rintro e W1 ⟨A1, n1, c1, rfl, o1, b1⟩
  have B1 : Below w.heap.size w W1 := bnext (balloc (Below.refl _ _) _) b1
  have r1 := o1.rd
  rw [List.singleton_append] at r1
  have hn1 : n1 ≤ 101 := by have h1 := r1.len; rw [bv_len, List.length_cons] at h1; have := HBL.out; omega
  clear o1 b1 gr r0
  go_wp2_with fail
  refine (I_PutN A1 n1 c1 (115 :: b) i 4 W1 r1 (by omega)).mono ?_
  rintro e W2 ⟨A2, n2, c2, rfl, o2, b2⟩
  have B2 := bnext B1 b2
  have D := Lib.hid (I_Hmac A A2 n c n2 c2 k _ W2 (h.below B2 (Nat.le_refl _)) o2.rd)
  rw [← HS.out] at D
  go_wp2_with fail
  refine D.out.mono ?_
  rintro e W3 ⟨A3, n3, c3, rfl, o3, b3⟩
  go_wp2_with fail
  exact bodyPost_ret (v := .slice A3 n3 c3) (by simp [results, Try.results34, go_sem]) rfl ⟨_, _, _, rfl, o3.less B2.size, bnext B2 b3⟩

end Go.Proofs.Ytbjbncmhnhlkpaa
