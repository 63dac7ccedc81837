/- Contracts of toAddr, eqAddr (package laws), AddrOk and Near (reference and program): what they return, for all integers; they make new memory alone. -/
import Derived.Test.YtckdipncijhedaaWord
namespace Go.Proofs.Ytckdipncijhedaa
open Go.ChangeShapes Go.WideShapes Go.ChangeAt Go.RowKit
set_option linter.unusedVariables false

abbrev addrV (a b : Int) : Value := .agg #[.int .i64 a, .int .i64 b]

theorem L_toAddr (a b : Int) (w : World) : Calls Try.prog 41 #[.agg #[.int .i64 a, .int .i64 b]] w fun e w' => e = .returned (.agg #[.int .i64 a, .int .i64 b]) ∧ Below w.heap.size w w' := by
  go_enter Try.func41, Try.ntmps41
  go_wp2_with fail
  refine bodyPost_ret (v := .agg #[.int .i64 a, .int .i64 b]) (by simp [results, Try.results41, go_sem]) rfl ⟨rfl, ?_⟩
  repeat (first | exact Below.refl _ _ | refine Below.alloc ?_ (by simp <;> omega) _)

/-- The addresses are equal in both fields. -/
def eqAd (a b c d : Int) : Bool := decide (a = c) && decide (b = d)
theorem L_eqAddr (a b c d : Int) (w : World) : Calls Try.prog 39 #[.agg #[.int .i64 a, .int .i64 b], .agg #[.int .i64 c, .int .i64 d]] w fun e w' => e = .returned (.bool (eqAd a b c d)) ∧ Below w.heap.size w w' := by
  by_cases h1 : a = c
  · subst h1
    by_cases h2 : b = d
    · subst h2
      have HR := Lib.hid (show eqAd a b a b = true by simp [eqAd])
      go_enter Try.func39, Try.ntmps39
      go_wp2_with fail
      go_ret
      exact ⟨by rw [HR.out]; rfl, by repeat (first | exact Below.refl _ _ | refine Below.alloc ?_ (by simp <;> omega) _)⟩
    · have HR := Lib.hid (show eqAd a b a d = false by simp [eqAd, h2])
      have hb : (b == d) = false := by simpa using h2
      go_enter Try.func39, Try.ntmps39
      go_wp2_with fail
      go_ret
      exact ⟨by rw [HR.out]; rfl, by repeat (first | exact Below.refl _ _ | refine Below.alloc ?_ (by simp <;> omega) _)⟩
  · have HR := Lib.hid (show eqAd a b c d = false by simp [eqAd, h1])
    have hb : (a == c) = false := by simpa using h1
    go_enter Try.func39, Try.ntmps39
    go_wp2_with fail
    go_ret
    exact ⟨by rw [HR.out]; rfl, by repeat (first | exact Below.refl _ _ | refine Below.alloc ?_ (by simp <;> omega) _)⟩

/-- The address is valid. -/
def okAd (a b : Int) : Bool := inB a 0 4294967295 && inB b 0 65535

theorem I_AddrOk (a b : Int) (w : World) : Calls Try.prog 63 #[.agg #[.int .i64 a, .int .i64 b]] w fun e w' => e = .returned (.bool (okAd a b)) ∧ Below w.heap.size w w' := by
  cases hx : inB a 0 4294967295 with
  | true =>
    have HX := Lib.hid hx
    clear hx
    have C1 := Lib.hid fun W => (I_in a 0 4294967295 W).mono fun e w' h => (⟨by rw [h.1, HX.out], h.2⟩ : e = .returned (.bool true) ∧ W = w')
    have HR := Lib.hid (show okAd a b = inB b 0 65535 by simp [okAd, HX.out])
    go_enter Try.func63, Try.ntmps63
    go_wp2_with fail
    refine (C1.out _).mono ?_
    rintro e w' ⟨rfl, rfl⟩
    go_wp2_with fail
    refine (I_in _ _ _ _).mono ?_
    rintro e w' ⟨rfl, rfl⟩
    go_wp2_with fail
    go_ret
    exact ⟨by rw [HR.out]; rfl, by repeat (first | exact Below.refl _ _ | refine Below.alloc ?_ (by simp <;> omega) _)⟩
  | false =>
    have HX := Lib.hid hx
    clear hx
    have C1 := Lib.hid fun W => (I_in a 0 4294967295 W).mono fun e w' h => (⟨by rw [h.1, HX.out], h.2⟩ : e = .returned (.bool false) ∧ W = w')
    have HR := Lib.hid (show okAd a b = false by simp [okAd, HX.out])
    go_enter Try.func63, Try.ntmps63
    go_wp2_with fail
    refine (C1.out _).mono ?_
    rintro e w' ⟨rfl, rfl⟩
    go_wp2_with fail
    go_ret
    exact ⟨by rw [HR.out]; rfl, by repeat (first | exact Below.refl _ _ | refine Below.alloc ?_ (by simp <;> omega) _)⟩

theorem S_AddrOk (a b : Int) (w : World) : Calls Try.prog 62 #[.agg #[.int .i64 a, .int .i64 b]] w fun e w' => e = .returned (.bool (okAd a b)) ∧ Below w.heap.size w w' := by
  cases hx : inB a 0 4294967295 with
  | true =>
    have HX := Lib.hid hx
    clear hx
    have C1 := Lib.hid fun W => (S_in a 0 4294967295 W).mono fun e w' h => (⟨by rw [h.1, HX.out], h.2⟩ : e = .returned (.bool true) ∧ W = w')
    have HR := Lib.hid (show okAd a b = inB b 0 65535 by simp [okAd, HX.out])
    go_enter Try.func62, Try.ntmps62
    go_wp2_with fail
    refine (C1.out _).mono ?_
    rintro e w' ⟨rfl, rfl⟩
    go_wp2_with fail
    refine (S_in _ _ _ _).mono ?_
    rintro e w' ⟨rfl, rfl⟩
    go_wp2_with fail
    go_ret
    exact ⟨by rw [HR.out]; rfl, by repeat (first | exact Below.refl _ _ | refine Below.alloc ?_ (by simp <;> omega) _)⟩
  | false =>
    have HX := Lib.hid hx
    clear hx
    have C1 := Lib.hid fun W => (S_in a 0 4294967295 W).mono fun e w' h => (⟨by rw [h.1, HX.out], h.2⟩ : e = .returned (.bool false) ∧ W = w')
    have HR := Lib.hid (show okAd a b = false by simp [okAd, HX.out])
    go_enter Try.func62, Try.ntmps62
    go_wp2_with fail
    refine (C1.out _).mono ?_
    rintro e w' ⟨rfl, rfl⟩
    go_wp2_with fail
    go_ret
    exact ⟨by rw [HR.out]; rfl, by repeat (first | exact Below.refl _ _ | refine Below.alloc ?_ (by simp <;> omega) _)⟩

/-- Near's host and port. -/
def nearH (i : Int) : Int := if 0 ≤ i ∧ i ≤ 255 then 167772160 + i else 0
def nearP (i : Int) : Int := if 0 ≤ i ∧ i ≤ 255 then 7000 + i else 0

end Go.Proofs.Ytckdipncijhedaa
