/- Contracts of Compress (reference and program): for every list of ints and every slice of bytes. -/
import Derived.Test.YtnngiampfdjlfaaCompS
import Derived.Test.YtnngiampfdjlfaaCompI
namespace Go.Proofs.Ytnngiampfdjlfaa
open Go.ChangeShapes Go.WideShapes Go.ChangeAt Go.RowKit
set_option linter.unusedVariables false

set_option maxRecDepth 100000 in
theorem S_Comp_no (A B : Option Addr) (N c M d : Nat) (hs : List Int) (l : List UInt8) (w : World) (h : Rd w A N c (iv hs)) (k : Rd w B M d (bv l)) (hN : N ≤ 8796093022208) (hb : ¬ (wordsB hs = true ∧ l.length = 64)) :
    Calls Try.prog 30 #[.slice A N c, .slice B M d] w fun e w' => Out 3 w (iv hs) e w' := by
  have hl : l.length = M := by have := k.len; rwa [bv_len] at this
  have hbd := h.bnd
  have kbd := k.bnd
  by_cases hw : wordsB hs = true
  · have hM : ¬ (M : Int) = 64 := by
      intro e
      exact hb ⟨hw, by omega⟩
    have CW := Lib.hid fun W hh => ((S_Words A N c hs W hh).mono fun e w' h' => (⟨by rw [h'.1, hw], h'.2⟩ : e = .returned (.bool true) ∧ W = w'))
    clear hl hw hb
    go_enter Try.func30, Try.ntmps30
    have q5 : 0 + N ≤ 70368744177664 / 8 := by omega
    have q6 : w.heap.size ≤ (w.alloc (.cells #[] 3)).heap.size := by simp
    have HOA := Lib.hid (own_empty w 3)
    have hra := h.alloc (.cells #[] 3)
    go_wp2_with (at_builtin; refine append_ints _ rfl _ _ rfl w.heap.size _ _ _ [] rfl HOA _ _ _ hs rfl hra q5 q6 ?_; intro A1 c1 W1 HO1 hb1)
    have B1 : Below w.heap.size w W1 := (balloc (Below.refl _ _) _).trans hb1
    refine (CW.out _ (h.below B1 (Nat.le_refl _))).mono ?_
    rintro e W2 ⟨rfl, rfl⟩
    go_wp2_with fail
    exact bodyPost_ret (v := .slice A1 (0 + N) c1) (by simp [results, Try.results30, go_sem]) rfl ⟨_, _, _, rfl, Ow.of_own HO1.out, B1⟩
  · have hw : wordsB hs = false := by simpa using hw
    have CW := Lib.hid fun W hh => ((S_Words A N c hs W hh).mono fun e w' h' => (⟨by rw [h'.1, hw], h'.2⟩ : e = .returned (.bool false) ∧ W = w'))
    clear hl hw hb
    go_enter Try.func30, Try.ntmps30
    have q5 : 0 + N ≤ 70368744177664 / 8 := by omega
    have q6 : w.heap.size ≤ (w.alloc (.cells #[] 3)).heap.size := by simp
    have HOA := Lib.hid (own_empty w 3)
    have hra := h.alloc (.cells #[] 3)
    go_wp2_with (at_builtin; refine append_ints _ rfl _ _ rfl w.heap.size _ _ _ [] rfl HOA _ _ _ hs rfl hra q5 q6 ?_; intro A1 c1 W1 HO1 hb1)
    have B1 : Below w.heap.size w W1 := (balloc (Below.refl _ _) _).trans hb1
    refine (CW.out _ (h.below B1 (Nat.le_refl _))).mono ?_
    rintro e W2 ⟨rfl, rfl⟩
    go_wp2_with fail
    exact bodyPost_ret (v := .slice A1 (0 + N) c1) (by simp [results, Try.results30, go_sem]) rfl ⟨_, _, _, rfl, Ow.of_own HO1.out, B1⟩

theorem S_Compress (A B : Option Addr) (N c M d : Nat) (hs : List Int) (l : List UInt8) (w : World) (h : Rd w A N c (iv hs)) (k : Rd w B M d (bv l)) (hN : N ≤ 8796093022208) :
    Calls Try.prog 30 #[.slice A N c, .slice B M d] w fun e w' => Out 3 w (iv (compL hs l)) e w' := by
  by_cases hb : wordsB hs = true ∧ l.length = 64
  · rw [compL, if_pos hb]
    have hl : l.length = M := by have := k.len; rwa [bv_len] at this
    have hh : hs.length = N := by have := h.len; rwa [iv_len] at this
    exact S_Comp_yes A B N c M d hs l w h k (by have := ((wordsB_iff hs).1 hb.1).2; omega) (by omega) hb.1
  · rw [compL, if_neg hb]
    exact S_Comp_no A B N c M d hs l w h k hN hb

set_option maxRecDepth 100000 in
theorem I_Comp_no (A B : Option Addr) (N c M d : Nat) (hs : List Int) (l : List UInt8) (w : World) (h : Rd w A N c (iv hs)) (k : Rd w B M d (bv l)) (hN : N ≤ 8796093022208) (hb : ¬ (wordsB hs = true ∧ l.length = 64)) :
    Calls Try.prog 56 #[.slice A N c, .slice B M d] w fun e w' => Out 3 w (iv hs) e w' := by
  have hl : l.length = M := by have := k.len; rwa [bv_len] at this
  have hbd := h.bnd
  have kbd := k.bnd
  by_cases hw : wordsB hs = true
  · have hM : ¬ (M : Int) = 64 := by
      intro e
      exact hb ⟨hw, by omega⟩
    have CW := Lib.hid fun W hh => ((I_Words A N c hs W hh).mono fun e w' h' => (⟨by rw [h'.1, hw], h'.2⟩ : e = .returned (.bool true) ∧ W = w'))
    clear hl hw hb
    go_enter Try.func56, Try.ntmps56
    have q5 : 0 + N ≤ 70368744177664 / 8 := by omega
    have q6 : w.heap.size ≤ (w.alloc (.cells #[] 3)).heap.size := by simp
    have HOA := Lib.hid (own_empty w 3)
    have hra := h.alloc (.cells #[] 3)
    go_wp2_with (at_builtin; refine append_ints _ rfl _ _ rfl w.heap.size _ _ _ [] rfl HOA _ _ _ hs rfl hra q5 q6 ?_; intro A1 c1 W1 HO1 hb1)
    have B1 : Below w.heap.size w W1 := (balloc (Below.refl _ _) _).trans hb1
    refine (CW.out _ (h.below B1 (Nat.le_refl _))).mono ?_
    rintro e W2 ⟨rfl, rfl⟩
    go_wp2_with fail
    exact bodyPost_ret (v := .slice A1 (0 + N) c1) (by simp [results, Try.results56, go_sem]) rfl ⟨_, _, _, rfl, Ow.of_own HO1.out, B1⟩
  · have hw : wordsB hs = false := by simpa using hw
    have CW := Lib.hid fun W hh => ((I_Words A N c hs W hh).mono fun e w' h' => (⟨by rw [h'.1, hw], h'.2⟩ : e = .returned (.bool false) ∧ W = w'))
    clear hl hw hb
    go_enter Try.func56, Try.ntmps56
    have q5 : 0 + N ≤ 70368744177664 / 8 := by omega
    have q6 : w.heap.size ≤ (w.alloc (.cells #[] 3)).heap.size := by simp
    have HOA := Lib.hid (own_empty w 3)
    have hra := h.alloc (.cells #[] 3)
    go_wp2_with (at_builtin; refine append_ints _ rfl _ _ rfl w.heap.size _ _ _ [] rfl HOA _ _ _ hs rfl hra q5 q6 ?_; intro A1 c1 W1 HO1 hb1)
    have B1 : Below w.heap.size w W1 := (balloc (Below.refl _ _) _).trans hb1
    refine (CW.out _ (h.below B1 (Nat.le_refl _))).mono ?_
    rintro e W2 ⟨rfl, rfl⟩
    go_wp2_with fail
    exact bodyPost_ret (v := .slice A1 (0 + N) c1) (by simp [results, Try.results56, go_sem]) rfl ⟨_, _, _, rfl, Ow.of_own HO1.out, B1⟩

theorem I_Compress (A B : Option Addr) (N c M d : Nat) (hs : List Int) (l : List UInt8) (w : World) (h : Rd w A N c (iv hs)) (k : Rd w B M d (bv l)) (hN : N ≤ 8796093022208) :
    Calls Try.prog 56 #[.slice A N c, .slice B M d] w fun e w' => Out 3 w (iv (compL hs l)) e w' := by
  by_cases hb : wordsB hs = true ∧ l.length = 64
  · rw [compL, if_pos hb]
    have hl : l.length = M := by have := k.len; rwa [bv_len] at this
    have hh : hs.length = N := by have := h.len; rwa [iv_len] at this
    exact I_Comp_yes A B N c M d hs l w h k (by have := ((wordsB_iff hs).1 hb.1).2; omega) (by omega) hb.1
  · rw [compL, if_neg hb]
    exact I_Comp_no A B N c M d hs l w h k hN hb

end Go.Proofs.Ytnngiampfdjlfaa
