/- Contracts of the drawing functions that part: l1Once, l1Odd, DrawRot, DrawAdd32, DrawPad, DrawPutN. -/
import Derived.Test.YtckdipncijhedaaDraws
namespace Go.Proofs.Ytckdipncijhedaa
open Go.ChangeShapes Go.WideShapes Go.ChangeAt Go.RowKit
set_option linter.unusedVariables false

/-- A 64-bit integer. -/
def I64 (x : Int) : Prop := -9223372036854775808 ≤ x ∧ x ≤ 9223372036854775807

theorem S_Once (w0 w : World) (g : Nat) (A : Option Addr) (n c : Nat) (l : List UInt8) (m : Int) (d : Dn w0 w g A n c l) :
    Calls Try.prog 55 #[.pointer (some ⟨g, 0, none⟩), .int .i64 m] w fun e w' => Drew w0 w g A n c l (fun v _ => ∃ b : Bool, v = .bool b) e w' := by
  go_enter Try.func55, Try.ntmps55
  go_wp2_with fail
  refine (S_Below w0 w g A n c l m d).mono ?_
  rintro e W1 ⟨v, rfl, ⟨x, rfl, hx⟩, d1, k1⟩
  go_wp2_with fail
  go_ret
  exact ⟨_, rfl, ⟨_, rfl⟩, d1, k1⟩

theorem S_Odd (w0 w : World) (g : Nat) (A : Option Addr) (n c : Nat) (l : List UInt8) (d : Dn w0 w g A n c l) :
    Calls Try.prog 56 #[.pointer (some ⟨g, 0, none⟩)] w fun e w' => Drew w0 w g A n c l (fun v _ => ∃ x : Int, v = .int .i64 x ∧ I64 x) e w' := by
  go_enter Try.func56, Try.ntmps56
  go_wp2_with fail
  refine (S_IntL w0 w g A n c l [-1, 0, 1, 2, 255, 256, 65535, 2147483647, 2147483648, 4294967295, 4294967296, -2147483648, 9223372036854775807, -9223372036854775808] d (by decide) (by decide)).mono ?_
  rintro e W1 ⟨v, rfl, ⟨x, rfl, hx⟩, d1, k1⟩
  go_wp2_with fail
  go_ret
  refine ⟨_, rfl, ⟨_, rfl, ?_⟩, d1, k1⟩
  simp at hx
  unfold I64
  omega

theorem S_DrawRot (A : Option Addr) (n c : Nat) (l : List UInt8) (w : World) (h : Rd w A n c (bv l)) :
    Calls Try.prog 28 #[.slice A n c] w fun e w' => ∃ x z : Int, e = .returned (.tuple #[.int .i64 x, .int .i64 z]) ∧ I64 x ∧ I64 z ∧ Below w.heap.size w w' := by
  go_enter Try.func28, Try.ntmps28
  go_wp2_with fail
  refine (S_New A n c l w h).mono ?_
  rintro e W1 ⟨rfl, d1, b1⟩
  go_wp2_with fail
  refine (S_Once w W1 w.heap.size A n c l 4 d1).mono ?_
  rintro e W2 ⟨v, rfl, ⟨b, rfl⟩, d2, k2⟩
  cases b with
  | true =>
    go_wp2_with fail
    refine (S_Odd w W2 w.heap.size A n c l d2).mono ?_
    rintro e W3 ⟨v, rfl, ⟨x, rfl, hx⟩, d3, k3⟩
    go_wp2_with fail
    refine (S_Odd w W3 w.heap.size A n c l d3).mono ?_
    rintro e W4 ⟨v, rfl, ⟨z, rfl, hz⟩, d4, k4⟩
    go_wp2_with fail
    exact bodyPost_ret (v := .tuple #[.int .i64 x, .int .i64 z]) (by simp [results, Try.results28, go_sem]) rfl ⟨x, z, rfl, hx, hz, d4.bel⟩
  | false =>
    go_wp2_with fail
    refine (S_Below w W2 w.heap.size A n c l 16777216 d2).mono ?_
    rintro e W3 ⟨v, rfl, ⟨x, rfl, hx0, hx1, _⟩, d3, k3⟩
    have hx2 := hx1 (by omega)
    go_wp2_with fail
    refine (S_Byte w W3 w.heap.size A n c l d3).mono ?_
    rintro e W4 ⟨v, rfl, ⟨y, rfl, hy0, hy1⟩, d4, k4⟩
    go_wp2_with fail
    refine (S_Below w W4 w.heap.size A n c l 33 d4).mono ?_
    rintro e W5 ⟨v, rfl, ⟨z, rfl, hz0, hz1, _⟩, d5, k5⟩
    have hz2 := hz1 (by omega)
    go_wp2_with fail
    exact bodyPost_ret (v := .tuple #[.int .i64 (x * 256 + y), .int .i64 z]) (by simp [results, Try.results28, go_sem]) rfl ⟨_, z, rfl, by unfold I64; omega, by unfold I64; omega, d5.bel⟩

theorem S_DrawAdd32 (A : Option Addr) (n c : Nat) (l : List UInt8) (w : World) (h : Rd w A n c (bv l)) :
    Calls Try.prog 29 #[.slice A n c] w fun e w' => ∃ x z : Int, e = .returned (.tuple #[.int .i64 x, .int .i64 z]) ∧ I64 x ∧ I64 z ∧ Below w.heap.size w w' := by
  go_enter Try.func29, Try.ntmps29
  go_wp2_with fail
  refine (S_New A n c l w h).mono ?_
  rintro e W1 ⟨rfl, d1, b1⟩
  go_wp2_with fail
  refine (S_Once w W1 w.heap.size A n c l 3 d1).mono ?_
  rintro e W2 ⟨v, rfl, ⟨b, rfl⟩, d2, k2⟩
  cases b with
  | true =>
    go_wp2_with fail
    refine (S_Odd w W2 w.heap.size A n c l d2).mono ?_
    rintro e W3 ⟨v, rfl, ⟨x, rfl, hx⟩, d3, k3⟩
    go_wp2_with fail
    refine (S_Odd w W3 w.heap.size A n c l d3).mono ?_
    rintro e W4 ⟨v, rfl, ⟨z, rfl, hz⟩, d4, k4⟩
    go_wp2_with fail
    exact bodyPost_ret (v := .tuple #[.int .i64 x, .int .i64 z]) (by simp [results, Try.results29, go_sem]) rfl ⟨x, z, rfl, hx, hz, d4.bel⟩
  | false =>
    go_wp2_with fail
    refine (S_Below w W2 w.heap.size A n c l 16777216 d2).mono ?_
    rintro e W3 ⟨v, rfl, ⟨x, rfl, hx0, hx1, _⟩, d3, k3⟩
    have hx2 := hx1 (by omega)
    go_wp2_with fail
    refine (S_Below w W3 w.heap.size A n c l 16777216 d3).mono ?_
    rintro e W4 ⟨v, rfl, ⟨y, rfl, hy0, hy1, _⟩, d4, k4⟩
    have hy2 := hy1 (by omega)
    go_wp2_with fail
    exact bodyPost_ret (v := .tuple #[.int .i64 (x * 256), .int .i64 (y * 256)]) (by simp [results, Try.results29, go_sem]) rfl ⟨_, _, rfl, by unfold I64; omega, by unfold I64; omega, d4.bel⟩

theorem S_DrawPad (A : Option Addr) (n c : Nat) (l : List UInt8) (w : World) (h : Rd w A n c (bv l)) :
    Calls Try.prog 43 #[.slice A n c] w fun e w' => ∃ x : Int, e = .returned (.int .i64 x) ∧ I64 x ∧ Below w.heap.size w w' := by
  go_enter Try.func43, Try.ntmps43
  go_wp2_with fail
  refine (S_New A n c l w h).mono ?_
  rintro e W1 ⟨rfl, d1, b1⟩
  go_wp2_with fail
  refine (S_Once w W1 w.heap.size A n c l 3 d1).mono ?_
  rintro e W2 ⟨v, rfl, ⟨b, rfl⟩, d2, k2⟩
  cases b with
  | true =>
    go_wp2_with fail
    refine (S_IntL w W2 w.heap.size A n c l [-1, 0, 1048576, 1048577, 9223372036854775807] d2 (by decide) (by decide)).mono ?_
    rintro e W3 ⟨v, rfl, ⟨x, rfl, hx⟩, d3, k3⟩
    go_wp2_with fail
    exact bodyPost_ret (v := .int .i64 x) (by simp [results, Try.results43, go_sem]) rfl ⟨x, rfl, by simp at hx; unfold I64; omega, d3.bel⟩
  | false =>
    go_wp2_with fail
    refine (S_Below w W2 w.heap.size A n c l 200 d2).mono ?_
    rintro e W3 ⟨v, rfl, ⟨x, rfl, hx0, hx1, _⟩, d3, k3⟩
    have hx2 := hx1 (by omega)
    go_wp2_with fail
    exact bodyPost_ret (v := .int .i64 x) (by simp [results, Try.results43, go_sem]) rfl ⟨x, rfl, by unfold I64; omega, d3.bel⟩

theorem S_DrawPutN (A : Option Addr) (n c : Nat) (l : List UInt8) (w : World) (h : Rd w A n c (bv l)) :
    Calls Try.prog 49 #[.slice A n c] w fun e w' => ∃ (Aa : Option Addr) (na ca : Nat) (ra : List UInt8) (x z : Int), e = .returned (.tuple #[.slice Aa na ca, .int .i64 x, .int .i64 z]) ∧ (Ow w' 5 Aa na ca w.heap.size w'.heap.size (bv ra) ∧ ra.length ≤ 3) ∧ I64 x ∧ (-1 ≤ z ∧ z ≤ 7) ∧ Below w.heap.size w w' := by
  go_enter Try.func49, Try.ntmps49
  go_wp2_with fail
  refine (S_New A n c l w h).mono ?_
  rintro e W1 ⟨rfl, d1, b1⟩
  clear b1
  go_wp2_with fail
  refine (S_Below w W1 w.heap.size A n c l 4 d1).mono ?_
  rintro e W2 ⟨v, rfl, ⟨xa, rfl, ha0, ha1, _⟩, d2, k2⟩
  have ha2 := ha1 (by omega)
  go_wp2_with fail
  refine (S_Bytes w W2 w.heap.size A n c l xa d2 (by omega)).mono ?_
  rintro e W3 ⟨v, rfl, ⟨Aa, na, ca, ra, rfl, oa, la⟩, d3, k3⟩
  go_wp2_with fail
  refine (S_Once w W3 w.heap.size A n c l 3 d3).mono ?_
  rintro e W4 ⟨v, rfl, ⟨b, rfl⟩, d4, k4⟩
  replace oa := oa.kp k4 d2.lt
  have s2 := d2.bel.size
  have s4 := k4.size
  cases b with
  | true =>
    go_wp2_with fail
    refine (S_Odd w W4 w.heap.size A n c l d4).mono ?_
    rintro e W5 ⟨v, rfl, ⟨x, rfl, hx⟩, d5, k5⟩
    replace oa := oa.kp k5 d2.lt
    go_wp2_with fail
    refine (S_Below w W5 w.heap.size A n c l 9 d5).mono ?_
    rintro e W6 ⟨v, rfl, ⟨z, rfl, hz0, hz1, _⟩, d6, k6⟩
    replace oa := oa.kp k6 d2.lt
    have hz2 := hz1 (by omega)
    have s5 := k5.size
    have s6 := k6.size
    go_wp2_with fail
    exact bodyPost_ret (v := .tuple #[.slice Aa na ca, .int .i64 x, .int .i64 (z - 1)]) (by simp [results, Try.results49, go_sem]) rfl ⟨Aa, na, ca, ra, x, _, rfl, ⟨(oa.less s2).more (by omega), by omega⟩, hx, by omega, d6.bel⟩
  | false =>
    go_wp2_with fail
    refine (S_Below w W4 w.heap.size A n c l 16777216 d4).mono ?_
    rintro e W5 ⟨v, rfl, ⟨x, rfl, hx0, hx1, _⟩, d5, k5⟩
    replace oa := oa.kp k5 d2.lt
    have hx2 := hx1 (by omega)
    go_wp2_with fail
    refine (S_Below w W5 w.heap.size A n c l 70000 d5).mono ?_
    rintro e W6 ⟨v, rfl, ⟨y, rfl, hy0, hy1, _⟩, d6, k6⟩
    replace oa := oa.kp k6 d2.lt
    have hy2 := hy1 (by omega)
    go_wp2_with fail
    refine (S_Below w W6 w.heap.size A n c l 6 d6).mono ?_
    rintro e W7 ⟨v, rfl, ⟨z, rfl, hz0, hz1, _⟩, d7, k7⟩
    replace oa := oa.kp k7 d2.lt
    have hz2 := hz1 (by omega)
    have s5 := k5.size
    have s6 := k6.size
    have s7 := k7.size
    have hp0 : 0 ≤ x * (1 + y) := Int.mul_nonneg hx0 (by omega)
    have hp1 : x * (1 + y) ≤ 16777216 * 70000 := Int.mul_le_mul (by omega) (by omega) (by omega) (by omega)
    generalize x * (1 + y) = xy at *
    have hw : wrap64 xy = xy := by unfold wrap64; omega
    go_wp2_with fail
    exact bodyPost_ret (v := .tuple #[.slice Aa na ca, .int .i64 xy, .int .i64 (1 + z)]) (by simp [results, Try.results49, go_sem]) rfl ⟨Aa, na, ca, ra, _, _, rfl, ⟨(oa.less s2).more (by omega), by omega⟩, by unfold I64; omega, by omega, d7.bel⟩

end Go.Proofs.Ytckdipncijhedaa
