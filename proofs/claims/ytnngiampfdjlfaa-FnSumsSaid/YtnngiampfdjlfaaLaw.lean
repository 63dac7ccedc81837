/- Contracts of the laws' small helpers: big, at, same, starts. -/
import Derived.Test.YtnngiampfdjlfaaStep
namespace Go.Proofs.Ytnngiampfdjlfaa
open Go.ChangeShapes Go.WideShapes Go.ChangeAt Go.RowKit
set_option linter.unusedVariables false

theorem L_big (A : Option Addr) (n c : Nat) (w : World) (hb : n ≤ c ∧ c ≤ 9223372036854775807) :
    Calls Try.prog 18 #[.slice A n c] w fun e w' => e = .returned (.bool (decide (1048576 < n))) ∧ w = w' := by
  by_cases h : 1048576 < n
  · have h' : (1048576 : Int) < (n : Int) := by omega
    have HD := Lib.hid (show decide (1048576 < n) = true from decide_eq_true h)
    go_enter Try.func18, Try.ntmps18
    go_wp2_with fail
    go_ret
    exact ⟨by rw [HD.out]; rfl, rfl⟩
  · have h' : ¬ (1048576 : Int) < (n : Int) := by omega
    have HD := Lib.hid (show decide (1048576 < n) = false from decide_eq_false h)
    go_enter Try.func18, Try.ntmps18
    go_wp2_with fail
    go_ret
    first | exact ⟨rfl, rfl⟩ | exact ⟨by rw [HD.out]; simp, rfl⟩
theorem L_big_no (A : Option Addr) (n c : Nat) (w : World) (hb : n ≤ c ∧ c ≤ 9223372036854775807) (h : n ≤ 1048576) :
    Calls Try.prog 18 #[.slice A n c] w fun e w' => e = .returned (.bool false) ∧ w = w' :=
  (L_big A n c w hb).mono fun e w' ⟨he, hw⟩ => ⟨by rw [he, show decide (1048576 < n) = false from decide_eq_false (by omega)], hw⟩
theorem L_big_yes (A : Option Addr) (n c : Nat) (w : World) (hb : n ≤ c ∧ c ≤ 9223372036854775807) (h : ¬ n ≤ 1048576) :
    Calls Try.prog 18 #[.slice A n c] w fun e w' => e = .returned (.bool true) ∧ w = w' :=
  (L_big A n c w hb).mono fun e w' ⟨he, hw⟩ => ⟨by rw [he, show decide (1048576 < n) = true from decide_eq_true (by omega)], hw⟩

theorem Rd.pre {w : World} {A : Option Addr} {n c m : Nat} {xs : List Value} (h : Rd w A n c xs) (hm : m ≤ n) : Rd w A m c (xs.take m) := by
  have h0 := h.len
  have h1 := h.le
  refine ⟨by rw [List.length_take]; omega, by omega, h.max, fun hp => ?_⟩
  obtain ⟨b, off, hA, hb, hc⟩ := h.at_ (by omega)
  refine ⟨b, off, hA, hb, fun j u hu => hc j u ?_⟩
  rw [List.getElem?_take] at hu
  split at hu
  · exact hu
  · cases hu
theorem bv_pre (l : List UInt8) (k : Nat) : (bv l).take k = bv (l.take k) := by simp [bv]

/-- 'string(b)'. -/
theorem conv_string {P : Program} (src dst e : TypeId) (hs : P.underlying src = some (.slice e)) (he : P.underlying e = some (.int .u8)) (hd : P.underlying dst = some .string)
    (A : Option Addr) (n c : Nat) (l : List UInt8) (w : World) (h : Rd w A n c (bv l)) : (convert src dst (.slice A n c)).run P w = .ok (.string ⟨l.toArray⟩) w := by
  have hl : l.length = n := by have := h.len; rwa [bv_len] at this
  by_cases hn : n = 0
  · subst hn
    have : l = [] := List.eq_nil_of_length_eq_zero hl
    subst this
    rw [run_convert_bytes_string w src dst e A 0 c hs he hd]
    cases A with
    | none =>
      simp [Conv.bytesToString]
      rfl
    | some ad =>
      simp [Conv.bytesToString, loadCells, loadCellsFrom]
      rfl
  · obtain ⟨b, off, rfl, _, hc⟩ := h.at_ (by omega)
    have := run_convert_bytes_back w src dst e ⟨b, off, none⟩ c l hs he hd (fun j hj => by rw [Addr.add_lit]; exact hc j _ (bv_get hj))
    rw [hl] at this
    exact this

theorem L_same (A B : Option Addr) (n c m d : Nat) (l k : List UInt8) (w : World) (h : Rd w A n c (bv l)) (g : Rd w B m d (bv k)) :
    Calls Try.prog 23 #[.slice A n c, .slice B m d] w fun e w' => e = .returned (.bool (l == k)) ∧ w = w' := by
  have hc1 := conv_string (P := Try.prog) 22 9 5 Try.underlying22 Try.underlying5 Try.underlying9 A n c l w h
  have hc2 := conv_string (P := Try.prog) 22 9 5 Try.underlying22 Try.underlying5 Try.underlying9 B m d k w g
  go_enter Try.func23, Try.ntmps23
  go_wp2_with fail
  go_ret
  exact ⟨rfl, rfl⟩
theorem L_same_yes (A B : Option Addr) (n c m d : Nat) (l k : List UInt8) (w : World) (h : Rd w A n c (bv l)) (g : Rd w B m d (bv k)) (e : l = k) :
    Calls Try.prog 23 #[.slice A n c, .slice B m d] w fun e w' => e = .returned (.bool true) ∧ w = w' :=
  (L_same A B n c m d l k w h g).mono fun e' w' ⟨he, hw⟩ => ⟨by rw [he, e]; simp, hw⟩

end Go.Proofs.Ytnngiampfdjlfaa
