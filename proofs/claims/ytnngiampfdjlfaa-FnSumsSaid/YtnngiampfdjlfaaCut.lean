/- Contracts of Cut (reference and program): the bytes cut out, and whether they all exist; for every slice and all 64-bit integers. -/
import Derived.Test.YtnngiampfdjlfaaAppend
namespace Go.Proofs.Ytnngiampfdjlfaa
open Go.ChangeShapes Go.WideShapes Go.ChangeAt Go.RowKit
set_option linter.unusedVariables false

/-- The n bytes at offset f all exist. -/
def cutOk (l : List UInt8) (f n : Int) : Prop := 0 ≤ f ∧ 0 ≤ n ∧ f + n ≤ l.length
instance (l : List UInt8) (f n : Int) : Decidable (cutOk l f n) := inferInstanceAs (Decidable (_ ∧ _ ∧ _))
def cutL (l : List UInt8) (f n : Int) : List UInt8 := if cutOk l f n then (l.drop f.toNat).take n.toNat else []
def cutB (l : List UInt8) (f n : Int) : Bool := decide (cutOk l f n)
/-- A slice in new memory, and a bool. -/
def Out2 (t : TypeId) (w : World) (xs : List Value) (b : Bool) (e : Ending) (w' : World) : Prop :=
  ∃ A n c, e = .returned (.tuple #[.slice A n c, .bool b]) ∧ Ow w' t A n c w.heap.size w'.heap.size xs ∧ Below w.heap.size w w'
theorem cut_rd (w : World) (t : TypeId) (A : Option Addr) (N c : Nat) (l : List UInt8) (k m : Nat) (h : Rd w A N c (bv l)) (hk : k + m ≤ N) :
    Rd (w.alloc (.cells #[] t)) (if c = k then A else A.map (·.add k)) (k + m - k) (c - k) (bv ((l.drop k).take m)) := by
  have := (h.cut k m hk).alloc (.cells #[] t)
  rw [bv_cut] at this
  rw [Nat.add_sub_cancel_left]
  exact this
theorem cutL_len (l : List UInt8) (f n : Int) : (cutL l f n).length ≤ l.length := by
  unfold cutL
  split
  · simp; omega
  · simp


theorem I_Cut_yes (A : Option Addr) (N c : Nat) (l : List UInt8) (k m : Nat) (w : World) (h : Rd w A N c (bv l)) (hk : k + m ≤ N) (hN : N ≤ 70368744177664) :
    Calls Try.prog 69 #[.slice A N c, .int .i64 (k : Int), .int .i64 (m : Int)] w fun e w' => Out2 5 w (bv ((l.drop k).take m)) true e w' := by
  have hbd := h.bnd
  have HC := Lib.hid (cut_rd w 5 A N c l k m h hk)
  have q3 : 0 + (k + m - k) ≤ 70368744177664 := by omega
  have q4 : ∀ o, w.heap.size ≤ (w.alloc o).heap.size := fun o => by simp
  have g1 : (k : Int) + (m : Int) ≤ (N : Int) := by omega
  have g2 : (N : Int) ≤ (c : Int) := by omega
  clear h
  go_enter Try.func69, Try.ntmps69
  go_wp2_with (at_builtin; refine append_bytes _ rfl _ _ rfl w.heap.size _ _ _ [] rfl (Lib.hid (own_empty w _)) _ _ _ ((l.drop k).take m) rfl HC.out q3 (q4 _) ?_; intro A' c' w1 HO hb1)
  all_goals
    go_ret2
    have ho := HO.out
    rw [List.nil_append, show 0 + (k + m - k) = m by omega] at ho
    exact ⟨_, _, _, rfl, Ow.of_own ho, (balloc (Below.refl _ _) _).trans hb1⟩

theorem I_Cut_no (A : Option Addr) (N c : Nat) (l : List UInt8) (k m : Int) (w : World) (h : Rd w A N c (bv l)) (hk : ¬ (0 ≤ k ∧ 0 ≤ m ∧ k + m ≤ N)) :
    Calls Try.prog 69 #[.slice A N c, .int .i64 k, .int .i64 m] w fun e w' => Out2 5 w (bv []) false e w' := by
  have hbd := h.bnd
  clear h
  by_cases h1 : k < 0
  · clear hk
    by_cases h2 : m < 0
    all_goals
      go_enter Try.func69, Try.ntmps69
      go_wp2_with fail
      go_ret2
      exact ⟨_, _, _, rfl, Ow.of_own (World.ownsRow_nil _ _ _ _), Below.refl _ _⟩
  · by_cases h2 : m < 0
    · clear hk
      go_enter Try.func69, Try.ntmps69
      go_wp2_with fail
      go_ret2
      exact ⟨_, _, _, rfl, Ow.of_own (World.ownsRow_nil _ _ _ _), Below.refl _ _⟩
    · have h3 : (N : Int) < k + m := by omega
      clear hk
      by_cases h4 : (N : Int) < k
      · go_enter Try.func69, Try.ntmps69
        go_wp2_with fail
        go_ret2
        exact ⟨_, _, _, rfl, Ow.of_own (World.ownsRow_nil _ _ _ _), Below.refl _ _⟩
      · have h5 : (N : Int) - k < m := by omega
        go_enter Try.func69, Try.ntmps69
        go_wp2_with fail
        go_ret2
        exact ⟨_, _, _, rfl, Ow.of_own (World.ownsRow_nil _ _ _ _), Below.refl _ _⟩

theorem I_Cut (A : Option Addr) (N c : Nat) (l : List UInt8) (k m : Int) (w : World) (h : Rd w A N c (bv l)) (hN : N ≤ 70368744177664) :
    Calls Try.prog 69 #[.slice A N c, .int .i64 k, .int .i64 m] w fun e w' => Out2 5 w (bv (cutL l k m)) (cutB l k m) e w' := by
  have hl : l.length = N := by have := h.len; rwa [bv_len] at this
  by_cases hk : 0 ≤ k ∧ 0 ≤ m ∧ k + m ≤ N
  · have hok : cutOk l k m := by unfold cutOk; rw [hl]; exact hk
    rw [cutL, if_pos hok, cutB, decide_eq_true hok]
    obtain ⟨k, rfl⟩ := Int.eq_ofNat_of_zero_le hk.1
    obtain ⟨m, rfl⟩ := Int.eq_ofNat_of_zero_le hk.2.1
    exact I_Cut_yes A N c l k m w h (by omega) hN
  · have hok : ¬ cutOk l k m := by unfold cutOk; rw [hl]; exact hk
    rw [cutL, if_neg hok, cutB, decide_eq_false hok]
    exact I_Cut_no A N c l k m w h hk

end Go.Proofs.Ytnngiampfdjlfaa
