/- Contracts of DrawDiff and DrawSameTag (package spec). -/
import Derived.Test.YtbjbncmhnhlkpaaBend
namespace Go.Proofs.Ytbjbncmhnhlkpaa
open Go.ChangeShapes Go.WideShapes Go.ChangeAt Go.RowKit
set_option linter.unusedVariables false

theorem S_DrawDiff (A : Option Addr) (n c : Nat) (l : List UInt8) (w : World) (h : Rd w A n c (bv l)) :
    Calls Try.prog 37 #[.slice A n c] w fun e w' => ∃ (Aa : Option Addr) (na ca : Nat) (ra : List UInt8) (Ab : Option Addr) (nb cb : Nat) (rb : List UInt8), e = .returned (.tuple #[.slice Aa na ca, .slice Ab nb cb]) ∧ (Ow w' 5 Aa na ca w.heap.size w'.heap.size (bv ra) ∧ ra.length ≤ 17) ∧ (Ow w' 5 Ab nb cb w.heap.size w'.heap.size (bv rb) ∧ rb.length ≤ 18) ∧ Below w.heap.size w w' := by
  go_enter Try.func37, Try.ntmps37
  go_wp2_with fail
  refine (S_New A n c l w h).mono ?_
  rintro e W1 ⟨rfl, d1, b1⟩
  clear b1
  go_wp2_with fail
  refine (S_Below w W1 w.heap.size A n c l 18 d1).mono ?_
  rintro e W2 ⟨v, rfl, ⟨x, rfl, hx0, hx1, _⟩, d2, k2⟩
  have gx := hx1 (by omega)
  go_wp2_with fail
  refine (S_Bytes w W2 w.heap.size A n c l x d2 (by omega)).mono ?_
  rintro e W3 ⟨v, rfl, ⟨Aa, na, ca, ra, rfl, oa, la⟩, d3, k3⟩
  have hna : na ≤ 17 := by have := oa.rd.len; rw [bv_len] at this; omega
  have hg2 := d2.lt
  have CB := Lib.hid (S_Bend w W3 w.heap.size A n c l Aa na ca ra d3 oa.rd (by omega) (fun b off e => by have := (oa.rng b (by rw [e]; rfl)).1; omega))
  go_wp2_with fail
  refine CB.out.mono ?_
  rintro e W4 ⟨v, rfl, ⟨Ab, nb, cb, rb, rfl, ob, lb⟩, d4, k4⟩
  have oa4 := oa.kp k4 hg2
  have s2 := d2.bel.size
  have s3 := d3.bel.size
  have s4 := k4.size
  have s5 := k3.size
  replace lb : rb.length ≤ ra.length + 1 := lb
  replace la : ra.length = x.toNat := la
  go_wp2_with fail
  exact bodyPost_ret (v := .tuple #[.slice Aa na ca, .slice Ab nb cb]) (by simp [results, Try.results37, go_sem]) rfl ⟨Aa, na, ca, ra, Ab, nb, cb, rb, rfl, ⟨(oa4.less s2).more (by omega), by omega⟩, ⟨ob.less s3, by omega⟩, d4.bel⟩

theorem S_DrawSameTag (A : Option Addr) (n c : Nat) (l : List UInt8) (w : World) (h : Rd w A n c (bv l)) :
    Calls Try.prog 39 #[.slice A n c] w fun e w' => ∃ (Aa : Option Addr) (na ca : Nat) (ra : List UInt8) (Ab : Option Addr) (nb cb : Nat) (rb : List UInt8), e = .returned (.tuple #[.slice Aa na ca, .slice Ab nb cb]) ∧ (Ow w' 5 Aa na ca w.heap.size w'.heap.size (bv ra) ∧ ra.length ≤ 17) ∧ (Ow w' 5 Ab nb cb w.heap.size w'.heap.size (bv rb) ∧ rb.length ≤ 18) ∧ Below w.heap.size w w' := by
  go_enter Try.func39, Try.ntmps39
  go_wp2_with fail
  refine (S_New A n c l w h).mono ?_
  rintro e W1 ⟨rfl, d1, b1⟩
  clear b1
  go_wp2_with fail
  refine (S_IntL w W1 w.heap.size A n c l [16, 16, 16, 16, 15, 17, 0] d1 (by decide) (by decide)).mono ?_
  rintro e W2 ⟨v, rfl, ⟨x, rfl, hx⟩, d2, k2⟩
  have gx : x ≤ 17 := by simp at hx; omega
  clear hx
  go_wp2_with fail
  refine (S_Bytes w W2 w.heap.size A n c l x d2 (by omega)).mono ?_
  rintro e W3 ⟨v, rfl, ⟨Aa, na, ca, ra, rfl, oa, la⟩, d3, k3⟩
  have hna : na ≤ 17 := by have := oa.rd.len; rw [bv_len] at this; omega
  have hg2 := d2.lt
  have CB := Lib.hid (S_Bend w W3 w.heap.size A n c l Aa na ca ra d3 oa.rd (by omega) (fun b off e => by have := (oa.rng b (by rw [e]; rfl)).1; omega))
  go_wp2_with fail
  refine CB.out.mono ?_
  rintro e W4 ⟨v, rfl, ⟨Ab, nb, cb, rb, rfl, ob, lb⟩, d4, k4⟩
  have oa4 := oa.kp k4 hg2
  have s2 := d2.bel.size
  have s3 := d3.bel.size
  have s4 := k4.size
  have s5 := k3.size
  replace lb : rb.length ≤ ra.length + 1 := lb
  replace la : ra.length = x.toNat := la
  go_wp2_with fail
  exact bodyPost_ret (v := .tuple #[.slice Aa na ca, .slice Ab nb cb]) (by simp [results, Try.results39, go_sem]) rfl ⟨Aa, na, ca, ra, Ab, nb, cb, rb, rfl, ⟨(oa4.less s2).more (by omega), by omega⟩, ⟨ob.less s3, by omega⟩, d4.bel⟩

end Go.Proofs.Ytbjbncmhnhlkpaa
