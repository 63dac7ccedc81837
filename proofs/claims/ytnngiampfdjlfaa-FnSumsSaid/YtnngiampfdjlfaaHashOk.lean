/- Contracts of HashOk (reference and program), and of the laws' toHash and szHash. -/
import Derived.Test.YtnngiampfdjlfaaHash
import Derived.Test.YtnngiampfdjlfaaHashM
namespace Go.Proofs.Ytnngiampfdjlfaa
open Go.ChangeShapes Go.WideShapes Go.ChangeAt Go.RowKit
set_option linter.unusedVariables false

theorem hOk_no1 (l : List Int) (h : List UInt8) (k : Int) (e : wordsB l = false) : hOk l h k = false := by simp [hOk, e]
theorem hOk_no2 (l : List Int) (h : List UInt8) (k : Int) (e : 64 ≤ h.length) : hOk l h k = false := by
  rw [Bool.eq_false_iff]
  intro hw
  have := (hOk_iff l h k).1 hw
  omega
theorem hOk_no3 (l : List Int) (h : List UInt8) (k : Int) (e : ¬ (0 ≤ k ∧ k ≤ 1048576)) : hOk l h k = false := by
  rw [Bool.eq_false_iff]
  intro hw
  exact e ((hOk_iff l h k).1 hw).2.1
theorem hOk_last (l : List Int) (h : List UInt8) (k : Int) (e1 : wordsB l = true) (e2 : 0 ≤ k ∧ k ≤ 1048576) : hOk l h k = decide (k % 64 = h.length) := by
  rw [Bool.eq_iff_iff, hOk_iff, decide_eq_true_iff]
  exact ⟨fun x => x.2.2, fun x => ⟨e1, e2, x⟩⟩

theorem S_HashOk (A B : Option Addr) (n c m d : Nat) (l : List Int) (h : List UInt8) (k : Int) (w : World) (r1 : Rd w A n c (iv l)) (r2 : Rd w B m d (bv h)) :
    Calls Try.prog 29 #[hashV A n c B m d k] w fun e w' => e = .returned (.bool (hOk l h k)) ∧ Below w.heap.size w w' := by
  have hm : h.length = m := by have := r2.len; rwa [bv_len] at this
  have hb1 := r1.bnd
  have hb2 := r2.bnd
  have hB : ∀ o, Below w.heap.size w (w.alloc o) := fun o => balloc (Below.refl _ _) o
  have hr1 : ∀ o, Rd (w.alloc o) A n c (iv l) := fun o => r1.alloc o
  have HR1 := Lib.hid hr1
  have HB := Lib.hid hB
  clear hr1 hB
  cases hw : wordsB l with
  | false =>
    have HR := Lib.hid (hOk_no1 l h k hw)
    have CW := Lib.hid fun W hh => ((S_Words A n c l W hh).mono fun e w' h' => (⟨by rw [h'.1, hw], h'.2⟩ : e = .returned (.bool false) ∧ W = w'))
    clear hw hm
    go_enter Try.func29, Try.ntmps29
    go_wp2_with fail
    refine (CW.out _ (HR1.out _)).mono ?_
    rintro e W1 ⟨rfl, rfl⟩
    go_wp2_with fail
    exact bodyPost_ret (v := .bool false) (by simp [results, Try.results29, go_sem]) rfl ⟨by rw [HR.out], HB.out _⟩
  | true =>
    have CW := Lib.hid fun W hh => ((S_Words A n c l W hh).mono fun e w' h' => (⟨by rw [h'.1, hw], h'.2⟩ : e = .returned (.bool true) ∧ W = w'))
    by_cases hlt : m < 64
    rotate_left
    · have hlt' : ¬ (m : Int) < 64 := by omega
      have HR := Lib.hid (hOk_no2 l h k (by omega))
      clear hw hm
      go_enter Try.func29, Try.ntmps29
      go_wp2_with fail
      refine (CW.out _ (HR1.out _)).mono ?_
      rintro e W1 ⟨rfl, rfl⟩
      go_wp2_with fail
      exact bodyPost_ret (v := .bool false) (by simp [results, Try.results29, go_sem]) rfl ⟨by rw [HR.out], HB.out _⟩
    have hlt' : (m : Int) < 64 := by omega
    by_cases hk : 0 ≤ k ∧ k ≤ 1048576
    · obtain ⟨q, rfl⟩ := Int.eq_ofNat_of_zero_le hk.1
      have CI := Lib.hid fun W => S_in_yes (q : Int) 0 1048576 W hk
      have hL := hOk_last l h q hw hk
      rw [hm] at hL
      by_cases he : q % 64 = m
      · have HR := Lib.hid (show hOk l h q = true by rw [hL, decide_eq_true_iff]; omega)
        have he' : ((q : Int)).tmod 64 = (m : Int) := by rw [Int.tmod_eq_emod_of_nonneg (by omega)]; omega
        clear hw hm hL hk he
        go_enter Try.func29, Try.ntmps29
        go_wp2_with fail
        refine (CW.out _ (HR1.out _)).mono ?_
        rintro e W1 ⟨rfl, rfl⟩
        go_wp2_with fail
        refine (CI.out _).mono ?_
        rintro e W1 ⟨rfl, rfl⟩
        go_wp2_with fail
        exact bodyPost_ret (v := .bool true) (by simp [results, Try.results29, go_sem]) rfl ⟨by rw [HR.out], HB.out _⟩
      · have HR := Lib.hid (show hOk l h q = false by rw [hL, decide_eq_false_iff_not]; omega)
        have he' : ¬ (q : Int) % 64 = (m : Int) := by omega
        clear hw hm hL hk he
        go_enter Try.func29, Try.ntmps29
        go_wp2_with fail
        refine (CW.out _ (HR1.out _)).mono ?_
        rintro e W1 ⟨rfl, rfl⟩
        go_wp2_with fail
        refine (CI.out _).mono ?_
        rintro e W1 ⟨rfl, rfl⟩
        go_wp2_with fail
        exact bodyPost_ret (v := .bool false) (by simp [results, Try.results29, go_sem, he']) rfl ⟨by rw [HR.out], HB.out _⟩
    · have CI := Lib.hid fun W => S_in_no k 0 1048576 W hk
      have HR := Lib.hid (hOk_no3 l h k hk)
      clear hw hm hk
      go_enter Try.func29, Try.ntmps29
      go_wp2_with fail
      refine (CW.out _ (HR1.out _)).mono ?_
      rintro e W1 ⟨rfl, rfl⟩
      go_wp2_with fail
      refine (CI.out _).mono ?_
      rintro e W1 ⟨rfl, rfl⟩
      go_wp2_with fail
      exact bodyPost_ret (v := .bool false) (by simp [results, Try.results29, go_sem]) rfl ⟨by rw [HR.out], HB.out _⟩

theorem I_HashOk (A B : Option Addr) (n c m d : Nat) (l : List Int) (h : List UInt8) (k : Int) (w : World) (r1 : Rd w A n c (iv l)) (r2 : Rd w B m d (bv h)) :
    Calls Try.prog 25 #[hashV A n c B m d k] w fun e w' => e = .returned (.bool (hOk l h k)) ∧ Below w.heap.size w w' := by
  have hm : h.length = m := by have := r2.len; rwa [bv_len] at this
  have hb1 := r1.bnd
  have hb2 := r2.bnd
  have hB : ∀ o, Below w.heap.size w (w.alloc o) := fun o => balloc (Below.refl _ _) o
  have hr1 : ∀ o, Rd (w.alloc o) A n c (iv l) := fun o => r1.alloc o
  have HR1 := Lib.hid hr1
  have HB := Lib.hid hB
  clear hr1 hB
  cases hw : wordsB l with
  | false =>
    have HR := Lib.hid (hOk_no1 l h k hw)
    have CW := Lib.hid fun W hh => ((I_Words A n c l W hh).mono fun e w' h' => (⟨by rw [h'.1, hw], h'.2⟩ : e = .returned (.bool false) ∧ W = w'))
    clear hw hm
    go_enter Try.func25, Try.ntmps25
    go_wp2_with fail
    refine (CW.out _ (HR1.out _)).mono ?_
    rintro e W1 ⟨rfl, rfl⟩
    go_wp2_with fail
    exact bodyPost_ret (v := .bool false) (by simp [results, Try.results25, go_sem]) rfl ⟨by rw [HR.out], HB.out _⟩
  | true =>
    have CW := Lib.hid fun W hh => ((I_Words A n c l W hh).mono fun e w' h' => (⟨by rw [h'.1, hw], h'.2⟩ : e = .returned (.bool true) ∧ W = w'))
    by_cases hk : 0 ≤ k ∧ k ≤ 1048576
    · obtain ⟨q, rfl⟩ := Int.eq_ofNat_of_zero_le hk.1
      have CI := Lib.hid fun W => I_in_yes (q : Int) 0 1048576 W hk
      have hL := hOk_last l h q hw hk
      rw [hm] at hL
      by_cases he : q % 64 = m
      · have HR := Lib.hid (show hOk l h q = true by rw [hL, decide_eq_true_iff]; omega)
        have he' : ((q : Int)).tmod 64 = (m : Int) := by rw [Int.tmod_eq_emod_of_nonneg (by omega)]; omega
        clear hw hm hL hk he
        go_enter Try.func25, Try.ntmps25
        go_wp2_with fail
        refine (CW.out _ (HR1.out _)).mono ?_
        rintro e W1 ⟨rfl, rfl⟩
        go_wp2_with fail
        refine (CI.out _).mono ?_
        rintro e W1 ⟨rfl, rfl⟩
        go_wp2_with fail
        exact bodyPost_ret (v := .bool true) (by simp [results, Try.results25, go_sem]) rfl ⟨by rw [HR.out], HB.out _⟩
      · have HR := Lib.hid (show hOk l h q = false by rw [hL, decide_eq_false_iff_not]; omega)
        have he' : ¬ (q : Int) % 64 = (m : Int) := by omega
        clear hw hm hL hk he
        go_enter Try.func25, Try.ntmps25
        go_wp2_with fail
        refine (CW.out _ (HR1.out _)).mono ?_
        rintro e W1 ⟨rfl, rfl⟩
        go_wp2_with fail
        refine (CI.out _).mono ?_
        rintro e W1 ⟨rfl, rfl⟩
        go_wp2_with fail
        exact bodyPost_ret (v := .bool false) (by simp [results, Try.results25, go_sem, he']) rfl ⟨by rw [HR.out], HB.out _⟩
    · have CI := Lib.hid fun W => I_in_no k 0 1048576 W hk
      have HR := Lib.hid (hOk_no3 l h k hk)
      clear hw hm hk
      go_enter Try.func25, Try.ntmps25
      go_wp2_with fail
      refine (CW.out _ (HR1.out _)).mono ?_
      rintro e W1 ⟨rfl, rfl⟩
      go_wp2_with fail
      refine (CI.out _).mono ?_
      rintro e W1 ⟨rfl, rfl⟩
      go_wp2_with fail
      exact bodyPost_ret (v := .bool false) (by simp [results, Try.results25, go_sem]) rfl ⟨by rw [HR.out], HB.out _⟩

end Go.Proofs.Ytnngiampfdjlfaa
