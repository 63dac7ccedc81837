/- Contracts of toAddr, eqAddr (package laws), AddrOk and Near (reference and program): what they return, for all integers; they make new memory alone. -/
import Derived.Test.YtkcmgeoaipjhhaaDoorWord
namespace Go.Proofs.YtkcmgeoaipjhhaaDoor
open Go.ChangeShapes Go.WideShapes Go.ChangeAt Go.RowKit
set_option linter.unusedVariables false

abbrev addrV (a b : Int) : Value := .agg #[.int .i64 a, .int .i64 b]

theorem L_toAddr (a b : Int) (w : World) : Calls Tryd.prog 22 #[.agg #[.int .i64 a, .int .i64 b]] w fun e w' => e = .returned (.agg #[.int .i64 a, .int .i64 b]) ∧ Below w.heap.size w w' := by
  go_enter Tryd.func22, Tryd.ntmps22
  go_wp2_with fail
  refine bodyPost_ret (v := .agg #[.int .i64 a, .int .i64 b]) (by simp [results, Tryd.results22, go_sem]) rfl ⟨rfl, ?_⟩
  repeat (first | exact Below.refl _ _ | refine Below.alloc ?_ (by simp <;> omega) _)

/-- The addresses are equal in both fields. -/
def eqAd (a b c d : Int) : Bool := decide (a = c) && decide (b = d)
theorem L_eqAddr (a b c d : Int) (w : World) : Calls Tryd.prog 9 #[.agg #[.int .i64 a, .int .i64 b], .agg #[.int .i64 c, .int .i64 d]] w fun e w' => e = .returned (.bool (eqAd a b c d)) ∧ Below w.heap.size w w' := by
  by_cases h1 : a = c
  · subst h1
    by_cases h2 : b = d
    · subst h2
      have HR := Lib.hid (show eqAd a b a b = true by simp [eqAd])
      go_enter Tryd.func9, Tryd.ntmps9
      go_wp2_with fail
      go_ret
      exact ⟨by rw [HR.out]; rfl, by repeat (first | exact Below.refl _ _ | refine Below.alloc ?_ (by simp <;> omega) _)⟩
    · have HR := Lib.hid (show eqAd a b a d = false by simp [eqAd, h2])
      have hb : (b == d) = false := by simpa using h2
      go_enter Tryd.func9, Tryd.ntmps9
      go_wp2_with fail
      go_ret
      exact ⟨by rw [HR.out]; rfl, by repeat (first | exact Below.refl _ _ | refine Below.alloc ?_ (by simp <;> omega) _)⟩
  · have HR := Lib.hid (show eqAd a b c d = false by simp [eqAd, h1])
    have hb : (a == c) = false := by simpa using h1
    go_enter Tryd.func9, Tryd.ntmps9
    go_wp2_with fail
    go_ret
    exact ⟨by rw [HR.out]; rfl, by repeat (first | exact Below.refl _ _ | refine Below.alloc ?_ (by simp <;> omega) _)⟩

/-- The address is valid. -/
def okAd (a b : Int) : Bool := inB a 0 4294967295 && inB b 0 65535

theorem I_AddrOk (a b : Int) (w : World) : Calls Tryd.prog 14 #[.agg #[.int .i64 a, .int .i64 b]] w fun e w' => e = .returned (.bool (okAd a b)) ∧ Below w.heap.size w w' := by
  cases hx : inB a 0 4294967295 with
  | true =>
    have HX := Lib.hid hx
    clear hx
    have C1 := Lib.hid fun W => (I_in a 0 4294967295 W).mono fun e w' h => (⟨by rw [h.1, HX.out], h.2⟩ : e = .returned (.bool true) ∧ W = w')
    have HR := Lib.hid (show okAd a b = inB b 0 65535 by simp [okAd, HX.out])
    go_enter Tryd.func14, Tryd.ntmps14
    go_wp2_with fail
    refine (C1.out _).mono ?_
    rintro e w' ⟨rfl, rfl⟩
    go_wp2_with fail
    refine (I_in _ _ _ _).mono ?_
    rintro e w' ⟨rfl, rfl⟩
    go_wp2_with fail
    go_ret
    exact ⟨by rw [HR.out]; rfl, by repeat (first | exact Below.refl _ _ | refine Below.alloc ?_ (by simp <;> omega) _)⟩
  | false =>
    have HX := Lib.hid hx
    clear hx
    have C1 := Lib.hid fun W => (I_in a 0 4294967295 W).mono fun e w' h => (⟨by rw [h.1, HX.out], h.2⟩ : e = .returned (.bool false) ∧ W = w')
    have HR := Lib.hid (show okAd a b = false by simp [okAd, HX.out])
    go_enter Tryd.func14, Tryd.ntmps14
    go_wp2_with fail
    refine (C1.out _).mono ?_
    rintro e w' ⟨rfl, rfl⟩
    go_wp2_with fail
    go_ret
    exact ⟨by rw [HR.out]; rfl, by repeat (first | exact Below.refl _ _ | refine Below.alloc ?_ (by simp <;> omega) _)⟩

theorem S_AddrOk (a b : Int) (w : World) : Calls Tryd.prog 15 #[.agg #[.int .i64 a, .int .i64 b]] w fun e w' => e = .returned (.bool (okAd a b)) ∧ Below w.heap.size w w' := by
  cases hx : inB a 0 4294967295 with
  | true =>
    have HX := Lib.hid hx
    clear hx
    have C1 := Lib.hid fun W => (S_in a 0 4294967295 W).mono fun e w' h => (⟨by rw [h.1, HX.out], h.2⟩ : e = .returned (.bool true) ∧ W = w')
    have HR := Lib.hid (show okAd a b = inB b 0 65535 by simp [okAd, HX.out])
    go_enter Tryd.func15, Tryd.ntmps15
    go_wp2_with fail
    refine (C1.out _).mono ?_
    rintro e w' ⟨rfl, rfl⟩
    go_wp2_with fail
    refine (S_in _ _ _ _).mono ?_
    rintro e w' ⟨rfl, rfl⟩
    go_wp2_with fail
    go_ret
    exact ⟨by rw [HR.out]; rfl, by repeat (first | exact Below.refl _ _ | refine Below.alloc ?_ (by simp <;> omega) _)⟩
  | false =>
    have HX := Lib.hid hx
    clear hx
    have C1 := Lib.hid fun W => (S_in a 0 4294967295 W).mono fun e w' h => (⟨by rw [h.1, HX.out], h.2⟩ : e = .returned (.bool false) ∧ W = w')
    have HR := Lib.hid (show okAd a b = false by simp [okAd, HX.out])
    go_enter Tryd.func15, Tryd.ntmps15
    go_wp2_with fail
    refine (C1.out _).mono ?_
    rintro e w' ⟨rfl, rfl⟩
    go_wp2_with fail
    go_ret
    exact ⟨by rw [HR.out]; rfl, by repeat (first | exact Below.refl _ _ | refine Below.alloc ?_ (by simp <;> omega) _)⟩

/-- Near's host and port. -/
def nearH (i : Int) : Int := if 0 ≤ i ∧ i ≤ 255 then 167772160 + i else 0
def nearP (i : Int) : Int := if 0 ≤ i ∧ i ≤ 255 then 7000 + i else 0

theorem S_Near (i : Int) (w : World) : Calls Tryd.prog 54 #[.int .i64 i] w fun e w' => e = .returned (.agg #[.int .i64 (nearH i), .int .i64 (nearP i)]) ∧ Below w.heap.size w w' := by
  by_cases h : 0 ≤ i ∧ i ≤ 255
  · have HR := Lib.hid (show nearH i = 167772160 + i ∧ nearP i = 7000 + i by simp [nearH, nearP, h])
    obtain ⟨h1, h2⟩ := h
    go_enter Tryd.func54, Tryd.ntmps54
    go_wp2_with fail
    refine (S_in_yes _ _ _ _ ⟨h1, h2⟩).mono ?_
    rintro e w' ⟨rfl, rfl⟩
    go_wp2_with fail
    refine bodyPost_ret (v := .agg #[.int .i64 (167772160 + i), .int .i64 (7000 + i)]) (by simp [results, Tryd.results54, go_sem]) rfl ⟨by rw [HR.out.1, HR.out.2], ?_⟩
    repeat (first | exact Below.refl _ _ | refine Below.alloc ?_ (by simp <;> omega) _ | refine Below.setCell ?_ (by simp <;> omega) _)
  · have HR := Lib.hid (show nearH i = 0 ∧ nearP i = 0 by simp [nearH, nearP, h])
    have HN := Lib.hid h
    clear h
    go_enter Tryd.func54, Tryd.ntmps54
    go_wp2_with fail
    refine (S_in_no _ _ _ _ HN.out).mono ?_
    rintro e w' ⟨rfl, rfl⟩
    go_wp2_with fail
    refine bodyPost_ret (v := .agg #[.int .i64 0, .int .i64 0]) (by simp [results, Tryd.results54, go_sem]) rfl ⟨by rw [HR.out.1, HR.out.2], ?_⟩
    repeat (first | exact Below.refl _ _ | refine Below.alloc ?_ (by simp <;> omega) _ | refine Below.setCell ?_ (by simp <;> omega) _)

theorem I_Near (i : Int) (w : World) : Calls Tryd.prog 20 #[.int .i64 i] w fun e w' => e = .returned (.agg #[.int .i64 (nearH i), .int .i64 (nearP i)]) ∧ Below w.heap.size w w' := by
  by_cases h : 0 ≤ i ∧ i ≤ 255
  · have HR := Lib.hid (show nearH i = 167772160 + i ∧ nearP i = 7000 + i by simp [nearH, nearP, h])
    obtain ⟨h1, h2⟩ := h
    go_enter Tryd.func20, Tryd.ntmps20
    go_wp2_with fail
    refine (I_in_yes _ _ _ _ ⟨h1, h2⟩).mono ?_
    rintro e w' ⟨rfl, rfl⟩
    go_wp2_with fail
    refine bodyPost_ret (v := .agg #[.int .i64 (167772160 + i), .int .i64 (7000 + i)]) (by simp [results, Tryd.results20, go_sem]) rfl ⟨by rw [HR.out.1, HR.out.2], ?_⟩
    repeat (first | exact Below.refl _ _ | refine Below.alloc ?_ (by simp <;> omega) _ | refine Below.setCell ?_ (by simp <;> omega) _)
  · have HR := Lib.hid (show nearH i = 0 ∧ nearP i = 0 by simp [nearH, nearP, h])
    have HN := Lib.hid h
    clear h
    go_enter Tryd.func20, Tryd.ntmps20
    go_wp2_with fail
    refine (I_in_no _ _ _ _ HN.out).mono ?_
    rintro e w' ⟨rfl, rfl⟩
    go_wp2_with fail
    refine bodyPost_ret (v := .agg #[.int .i64 0, .int .i64 0]) (by simp [results, Tryd.results20, go_sem]) rfl ⟨by rw [HR.out.1, HR.out.2], ?_⟩
    repeat (first | exact Below.refl _ _ | refine Below.alloc ?_ (by simp <;> omega) _ | refine Below.setCell ?_ (by simp <;> omega) _)

end Go.Proofs.YtkcmgeoaipjhhaaDoor
