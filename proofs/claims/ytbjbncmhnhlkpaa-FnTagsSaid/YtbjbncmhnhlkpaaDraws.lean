/- Contracts of the Draw functions whose results the laws use. -/
import Derived.Test.YtbjbncmhnhlkpaaDraw
namespace Go.Proofs.Ytbjbncmhnhlkpaa
open Go.ChangeShapes Go.WideShapes Go.ChangeAt Go.RowKit
set_option linter.unusedVariables false

/-- l1Int on a list that the caller lays. -/
theorem S_IntL (w0 w : World) (g : Nat) (A : Option Addr) (n c : Nat) (l : List UInt8) (zs : List Int) (d : Dn w0 w g A n c l) (h0 : 0 < zs.length) (h1 : zs.length ≤ 1000) :
    Calls Try.prog 64 #[.pointer (some ⟨g, 0, none⟩), .slice (some ⟨w.heap.size, 0, none⟩) zs.length zs.length] (w.alloc (.cells (iv zs).toArray 3)) fun e w' => Drew w0 w g A n c l (fun v _ => ∃ x : Int, v = .int .i64 x ∧ x ∈ zs) e w' := by
  have hB := balloc (Below.refl w.heap.size w) (.cells (iv zs).toArray 3)
  have hr : Rd (w.alloc (.cells (iv zs).toArray 3)) (some ⟨w.heap.size, 0, none⟩) zs.length zs.length (iv zs) := by
    have h : Rd (w.alloc (.cells (iv zs).toArray 3)) (some ⟨w.heap.size, 0, none⟩) zs.length zs.length (iv zs).toArray.toList := own_rd (World.ownsRow_lit w (iv zs).toArray zs.length (Nat.le_refl _) (by unfold maxLen; omega) (by simp [iv]))
    simpa using h
  have hg := d.lt
  refine (S_Int w0 _ g A n c l _ _ _ zs (d.below hB) hr h0 (fun b off e => by injection e with e; injection e with e; omega)).mono ?_
  rintro e w' ⟨v, rfl, hx, d', k'⟩
  exact ⟨v, rfl, hx, d', (Kp.of_below hB).trans k'⟩

set_option maxHeartbeats 1000000 in
theorem S_DrawExpand (A : Option Addr) (n c : Nat) (l : List UInt8) (w : World) (h : Rd w A n c (bv l)) :
    Calls Try.prog 30 #[.slice A n c] w fun e w' => ∃ (Aa : Option Addr) (na ca : Nat) (ra : List UInt8) (Ab : Option Addr) (nb cb : Nat) (rb : List UInt8) (z : Int), e = .returned (.tuple #[.slice Aa na ca, .slice Ab nb cb, .int .i64 z]) ∧ (Ow w' 5 Aa na ca w.heap.size w'.heap.size (bv ra) ∧ ra.length ≤ 32) ∧ (Ow w' 5 Ab nb cb w.heap.size w'.heap.size (bv rb) ∧ rb.length ≤ 101) ∧ (z ∈ ([0, 1, 31, 32, 33, 64, 65, 100, -1, 8161, 200] : List Int)) ∧ Below w.heap.size w w' := by
  go_enter Try.func30, Try.ntmps30
  go_wp2_with fail
  refine (S_New A n c l w h).mono ?_
  rintro e W1 ⟨rfl, d1, b1⟩
  clear b1
  go_wp2_with fail
  refine (S_IntL w W1 w.heap.size A n c l [0, 32, 32, 32] d1 (by decide) (by decide)).mono ?_
  rintro e W2 ⟨v, rfl, ⟨xa, rfl, hxa⟩, d2, k2⟩
  have gxa : xa ≤ 32 := by simp at hxa; omega
  go_wp2_with fail
  refine (S_Bytes w W2 w.heap.size A n c l xa d2 (by omega)).mono ?_
  rintro e W3 ⟨v, rfl, ⟨Aa, na, ca, ra, rfl, oa, la⟩, d3, k3⟩
  go_wp2_with fail
  refine (S_IntL w W3 w.heap.size A n c l [0, 5, 10, 100, 101] d3 (by decide) (by decide)).mono ?_
  rintro e W4 ⟨v, rfl, ⟨xb, rfl, hxb⟩, d4, k4⟩
  replace oa := oa.kp k4 d2.lt
  have gxb : xb ≤ 101 := by simp at hxb; omega
  go_wp2_with fail
  refine (S_Bytes w W4 w.heap.size A n c l xb d4 (by omega)).mono ?_
  rintro e W5 ⟨v, rfl, ⟨Ab, nb, cb, rb, rfl, ob, lb⟩, d5, k5⟩
  replace oa := oa.kp k5 d2.lt
  go_wp2_with fail
  refine (S_IntL w W5 w.heap.size A n c l [0, 1, 31, 32, 33, 64, 65, 100, -1, 8161, 200] d5 (by decide) (by decide)).mono ?_
  rintro e W6 ⟨v, rfl, ⟨z, rfl, hz⟩, d6, k6⟩
  replace oa := oa.kp k6 d2.lt
  replace ob := ob.kp k6 d4.lt
  go_wp2_with fail
  have s1 := d1.bel.size
  have s2 := k2.size
  have s3 := k3.size
  have s4 := k4.size
  have s5 := k5.size
  have s6 := k6.size
  exact bodyPost_ret (v := .tuple #[.slice Aa na ca, .slice Ab nb cb, .int .i64 z]) (by simp [results, Try.results30, go_sem]) rfl ⟨Aa, na, ca, ra, Ab, nb, cb, rb, z, rfl, ⟨(oa.less d2.bel.size).more (by omega), by omega⟩, ⟨(ob.less d4.bel.size).more (by omega), by omega⟩, hz, d6.bel⟩

set_option maxHeartbeats 1000000 in
theorem S_DrawStream (A : Option Addr) (n c : Nat) (l : List UInt8) (w : World) (h : Rd w A n c (bv l)) :
    Calls Try.prog 33 #[.slice A n c] w fun e w' => ∃ (Aa : Option Addr) (na ca : Nat) (ra : List UInt8) (Ab : Option Addr) (nb cb : Nat) (rb : List UInt8) (z : Int), e = .returned (.tuple #[.slice Aa na ca, .slice Ab nb cb, .int .i64 z]) ∧ (Ow w' 5 Aa na ca w.heap.size w'.heap.size (bv ra) ∧ ra.length ≤ 32) ∧ (Ow w' 5 Ab nb cb w.heap.size w'.heap.size (bv rb) ∧ rb.length ≤ 101) ∧ (z ∈ ([0, 1, 12, 31, 32, 33, 40, 64, 200, 201, -1] : List Int)) ∧ Below w.heap.size w w' := by
  go_enter Try.func33, Try.ntmps33
  go_wp2_with fail
  refine (S_New A n c l w h).mono ?_
  rintro e W1 ⟨rfl, d1, b1⟩
  clear b1
  go_wp2_with fail
  refine (S_IntL w W1 w.heap.size A n c l [0, 32, 32] d1 (by decide) (by decide)).mono ?_
  rintro e W2 ⟨v, rfl, ⟨xa, rfl, hxa⟩, d2, k2⟩
  have gxa : xa ≤ 32 := by simp at hxa; omega
  go_wp2_with fail
  refine (S_Bytes w W2 w.heap.size A n c l xa d2 (by omega)).mono ?_
  rintro e W3 ⟨v, rfl, ⟨Aa, na, ca, ra, rfl, oa, la⟩, d3, k3⟩
  go_wp2_with fail
  refine (S_IntL w W3 w.heap.size A n c l [0, 23, 23, 100, 101] d3 (by decide) (by decide)).mono ?_
  rintro e W4 ⟨v, rfl, ⟨xb, rfl, hxb⟩, d4, k4⟩
  replace oa := oa.kp k4 d2.lt
  have gxb : xb ≤ 101 := by simp at hxb; omega
  go_wp2_with fail
  refine (S_Bytes w W4 w.heap.size A n c l xb d4 (by omega)).mono ?_
  rintro e W5 ⟨v, rfl, ⟨Ab, nb, cb, rb, rfl, ob, lb⟩, d5, k5⟩
  replace oa := oa.kp k5 d2.lt
  go_wp2_with fail
  refine (S_IntL w W5 w.heap.size A n c l [0, 1, 12, 31, 32, 33, 40, 64, 200, 201, -1] d5 (by decide) (by decide)).mono ?_
  rintro e W6 ⟨v, rfl, ⟨z, rfl, hz⟩, d6, k6⟩
  replace oa := oa.kp k6 d2.lt
  replace ob := ob.kp k6 d4.lt
  go_wp2_with fail
  have s1 := d1.bel.size
  have s2 := k2.size
  have s3 := k3.size
  have s4 := k4.size
  have s5 := k5.size
  have s6 := k6.size
  exact bodyPost_ret (v := .tuple #[.slice Aa na ca, .slice Ab nb cb, .int .i64 z]) (by simp [results, Try.results33, go_sem]) rfl ⟨Aa, na, ca, ra, Ab, nb, cb, rb, z, rfl, ⟨(oa.less d2.bel.size).more (by omega), by omega⟩, ⟨(ob.less d4.bel.size).more (by omega), by omega⟩, hz, d6.bel⟩

set_option maxHeartbeats 1000000 in
theorem S_DrawMix (A : Option Addr) (n c : Nat) (l : List UInt8) (w : World) (h : Rd w A n c (bv l)) :
    Calls Try.prog 35 #[.slice A n c] w fun e w' => ∃ (Aa : Option Addr) (na ca : Nat) (ra : List UInt8) (Ab : Option Addr) (nb cb : Nat) (rb : List UInt8) (Ad : Option Addr) (nd cd : Nat) (rd : List UInt8), e = .returned (.tuple #[.slice Aa na ca, .slice Ab nb cb, .slice Ad nd cd]) ∧ (Ow w' 5 Aa na ca w.heap.size w'.heap.size (bv ra) ∧ ra.length = 32) ∧ (Ow w' 5 Ab nb cb w.heap.size w'.heap.size (bv rb) ∧ rb.length ≤ 101) ∧ (Ow w' 5 Ad nd cd w.heap.size w'.heap.size (bv rd) ∧ rd.length ≤ 201) ∧ Below w.heap.size w w' := by
  go_enter Try.func35, Try.ntmps35
  go_wp2_with fail
  refine (S_New A n c l w h).mono ?_
  rintro e W1 ⟨rfl, d1, b1⟩
  clear b1
  go_wp2_with fail
  refine (S_Bytes w W1 w.heap.size A n c l 32 d1 (by omega)).mono ?_
  rintro e W2 ⟨v, rfl, ⟨Aa, na, ca, ra, rfl, oa, la⟩, d2, k2⟩
  go_wp2_with fail
  refine (S_IntL w W2 w.heap.size A n c l [0, 23, 23, 100, 101] d2 (by decide) (by decide)).mono ?_
  rintro e W3 ⟨v, rfl, ⟨xb, rfl, hxb⟩, d3, k3⟩
  replace oa := oa.kp k3 d1.lt
  have gxb : xb ≤ 101 := by simp at hxb; omega
  go_wp2_with fail
  refine (S_Bytes w W3 w.heap.size A n c l xb d3 (by omega)).mono ?_
  rintro e W4 ⟨v, rfl, ⟨Ab, nb, cb, rb, rfl, ob, lb⟩, d4, k4⟩
  replace oa := oa.kp k4 d1.lt
  go_wp2_with fail
  refine (S_IntL w W4 w.heap.size A n c l [0, 1, 12, 32, 33, 40, 200, 201] d4 (by decide) (by decide)).mono ?_
  rintro e W5 ⟨v, rfl, ⟨xd, rfl, hxd⟩, d5, k5⟩
  replace oa := oa.kp k5 d1.lt
  replace ob := ob.kp k5 d3.lt
  have gxd : xd ≤ 201 := by simp at hxd; omega
  go_wp2_with fail
  refine (S_Bytes w W5 w.heap.size A n c l xd d5 (by omega)).mono ?_
  rintro e W6 ⟨v, rfl, ⟨Ad, nd, cd, rd, rfl, od, ld⟩, d6, k6⟩
  replace oa := oa.kp k6 d1.lt
  replace ob := ob.kp k6 d3.lt
  go_wp2_with fail
  have s1 := d1.bel.size
  have s2 := k2.size
  have s3 := k3.size
  have s4 := k4.size
  have s5 := k5.size
  have s6 := k6.size
  exact bodyPost_ret (v := .tuple #[.slice Aa na ca, .slice Ab nb cb, .slice Ad nd cd]) (by simp [results, Try.results35, go_sem]) rfl ⟨Aa, na, ca, ra, Ab, nb, cb, rb, Ad, nd, cd, rd, rfl, ⟨(oa.less d1.bel.size).more (by omega), by omega⟩, ⟨(ob.less d3.bel.size).more (by omega), by omega⟩, ⟨(od.less d5.bel.size).more (by omega), by omega⟩, d6.bel⟩

set_option maxHeartbeats 1000000 in
theorem S_DrawChain (A : Option Addr) (n c : Nat) (l : List UInt8) (w : World) (h : Rd w A n c (bv l)) :
    Calls Try.prog 56 #[.slice A n c] w fun e w' => ∃ (Aa : Option Addr) (na ca : Nat) (ra : List UInt8) (z : Int), e = .returned (.tuple #[.slice Aa na ca, .int .i64 z]) ∧ (Ow w' 5 Aa na ca w.heap.size w'.heap.size (bv ra) ∧ ra.length ≤ 32) ∧ (z ∈ ([0, 1, 2, 3, 5, -1, 65, 64] : List Int)) ∧ Below w.heap.size w w' := by
  go_enter Try.func56, Try.ntmps56
  go_wp2_with fail
  refine (S_New A n c l w h).mono ?_
  rintro e W1 ⟨rfl, d1, b1⟩
  clear b1
  go_wp2_with fail
  refine (S_IntL w W1 w.heap.size A n c l [0, 32, 32, 32] d1 (by decide) (by decide)).mono ?_
  rintro e W2 ⟨v, rfl, ⟨xa, rfl, hxa⟩, d2, k2⟩
  have gxa : xa ≤ 32 := by simp at hxa; omega
  go_wp2_with fail
  refine (S_Bytes w W2 w.heap.size A n c l xa d2 (by omega)).mono ?_
  rintro e W3 ⟨v, rfl, ⟨Aa, na, ca, ra, rfl, oa, la⟩, d3, k3⟩
  go_wp2_with fail
  refine (S_IntL w W3 w.heap.size A n c l [0, 1, 2, 3, 5, -1, 65, 64] d3 (by decide) (by decide)).mono ?_
  rintro e W4 ⟨v, rfl, ⟨z, rfl, hz⟩, d4, k4⟩
  replace oa := oa.kp k4 d2.lt
  go_wp2_with fail
  have s1 := d1.bel.size
  have s2 := k2.size
  have s3 := k3.size
  have s4 := k4.size
  exact bodyPost_ret (v := .tuple #[.slice Aa na ca, .int .i64 z]) (by simp [results, Try.results56, go_sem]) rfl ⟨Aa, na, ca, ra, z, rfl, ⟨(oa.less d2.bel.size).more (by omega), by omega⟩, hz, d4.bel⟩

set_option maxHeartbeats 1000000 in
theorem S_DrawTag (A : Option Addr) (n c : Nat) (l : List UInt8) (w : World) (h : Rd w A n c (bv l)) :
    Calls Try.prog 40 #[.slice A n c] w fun e w' => ∃ (Aa : Option Addr) (na ca : Nat) (ra : List UInt8) (Ab : Option Addr) (nb cb : Nat) (rb : List UInt8), e = .returned (.tuple #[.slice Aa na ca, .slice Ab nb cb]) ∧ (Ow w' 5 Aa na ca w.heap.size w'.heap.size (bv ra) ∧ ra.length ≤ 65) ∧ (Ow w' 5 Ab nb cb w.heap.size w'.heap.size (bv rb) ∧ rb.length ≤ 80) ∧ Below w.heap.size w w' := by
  go_enter Try.func40, Try.ntmps40
  go_wp2_with fail
  refine (S_New A n c l w h).mono ?_
  rintro e W1 ⟨rfl, d1, b1⟩
  clear b1
  go_wp2_with fail
  refine (S_IntL w W1 w.heap.size A n c l [0, 32, 32, 64, 65] d1 (by decide) (by decide)).mono ?_
  rintro e W2 ⟨v, rfl, ⟨xa, rfl, hxa⟩, d2, k2⟩
  have gxa : xa ≤ 65 := by simp at hxa; omega
  go_wp2_with fail
  refine (S_Bytes w W2 w.heap.size A n c l xa d2 (by omega)).mono ?_
  rintro e W3 ⟨v, rfl, ⟨Aa, na, ca, ra, rfl, oa, la⟩, d3, k3⟩
  go_wp2_with fail
  refine (S_IntL w W3 w.heap.size A n c l [0, 1, 28, 56, 80] d3 (by decide) (by decide)).mono ?_
  rintro e W4 ⟨v, rfl, ⟨xb, rfl, hxb⟩, d4, k4⟩
  replace oa := oa.kp k4 d2.lt
  have gxb : xb ≤ 80 := by simp at hxb; omega
  go_wp2_with fail
  refine (S_Bytes w W4 w.heap.size A n c l xb d4 (by omega)).mono ?_
  rintro e W5 ⟨v, rfl, ⟨Ab, nb, cb, rb, rfl, ob, lb⟩, d5, k5⟩
  replace oa := oa.kp k5 d2.lt
  go_wp2_with fail
  have s1 := d1.bel.size
  have s2 := k2.size
  have s3 := k3.size
  have s4 := k4.size
  have s5 := k5.size
  exact bodyPost_ret (v := .tuple #[.slice Aa na ca, .slice Ab nb cb]) (by simp [results, Try.results40, go_sem]) rfl ⟨Aa, na, ca, ra, Ab, nb, cb, rb, rfl, ⟨(oa.less d2.bel.size).more (by omega), by omega⟩, ⟨(ob.less d4.bel.size).more (by omega), by omega⟩, d5.bel⟩

set_option maxHeartbeats 1000000 in
theorem S_DrawHmac (A : Option Addr) (n c : Nat) (l : List UInt8) (w : World) (h : Rd w A n c (bv l)) :
    Calls Try.prog 53 #[.slice A n c] w fun e w' => ∃ (Aa : Option Addr) (na ca : Nat) (ra : List UInt8) (Ab : Option Addr) (nb cb : Nat) (rb : List UInt8), e = .returned (.tuple #[.slice Aa na ca, .slice Ab nb cb]) ∧ (Ow w' 5 Aa na ca w.heap.size w'.heap.size (bv ra) ∧ ra.length ≤ 131) ∧ (Ow w' 5 Ab nb cb w.heap.size w'.heap.size (bv rb) ∧ rb.length ≤ 120) ∧ Below w.heap.size w w' := by
  go_enter Try.func53, Try.ntmps53
  go_wp2_with fail
  refine (S_New A n c l w h).mono ?_
  rintro e W1 ⟨rfl, d1, b1⟩
  clear b1
  go_wp2_with fail
  refine (S_IntL w W1 w.heap.size A n c l [0, 4, 20, 32, 64, 65, 131] d1 (by decide) (by decide)).mono ?_
  rintro e W2 ⟨v, rfl, ⟨xa, rfl, hxa⟩, d2, k2⟩
  have gxa : xa ≤ 131 := by simp at hxa; omega
  go_wp2_with fail
  refine (S_Bytes w W2 w.heap.size A n c l xa d2 (by omega)).mono ?_
  rintro e W3 ⟨v, rfl, ⟨Aa, na, ca, ra, rfl, oa, la⟩, d3, k3⟩
  go_wp2_with fail
  refine (S_IntL w W3 w.heap.size A n c l [0, 1, 28, 50, 56, 64, 120] d3 (by decide) (by decide)).mono ?_
  rintro e W4 ⟨v, rfl, ⟨xb, rfl, hxb⟩, d4, k4⟩
  replace oa := oa.kp k4 d2.lt
  have gxb : xb ≤ 120 := by simp at hxb; omega
  go_wp2_with fail
  refine (S_Bytes w W4 w.heap.size A n c l xb d4 (by omega)).mono ?_
  rintro e W5 ⟨v, rfl, ⟨Ab, nb, cb, rb, rfl, ob, lb⟩, d5, k5⟩
  replace oa := oa.kp k5 d2.lt
  go_wp2_with fail
  have s1 := d1.bel.size
  have s2 := k2.size
  have s3 := k3.size
  have s4 := k4.size
  have s5 := k5.size
  exact bodyPost_ret (v := .tuple #[.slice Aa na ca, .slice Ab nb cb]) (by simp [results, Try.results53, go_sem]) rfl ⟨Aa, na, ca, ra, Ab, nb, cb, rb, rfl, ⟨(oa.less d2.bel.size).more (by omega), by omega⟩, ⟨(ob.less d4.bel.size).more (by omega), by omega⟩, d5.bel⟩

set_option maxHeartbeats 1000000 in
theorem S_DrawSha (A : Option Addr) (n c : Nat) (l : List UInt8) (w : World) (h : Rd w A n c (bv l)) :
    Calls Try.prog 45 #[.slice A n c] w fun e w' => ∃ (Aa : Option Addr) (na ca : Nat) (ra : List UInt8), e = .returned (.slice Aa na ca) ∧ (Ow w' 5 Aa na ca w.heap.size w'.heap.size (bv ra) ∧ ra.length ≤ 150) ∧ Below w.heap.size w w' := by
  go_enter Try.func45, Try.ntmps45
  go_wp2_with fail
  refine (S_New A n c l w h).mono ?_
  rintro e W1 ⟨rfl, d1, b1⟩
  clear b1
  go_wp2_with fail
  refine (S_IntL w W1 w.heap.size A n c l [0, 3, 54, 55, 56, 57, 63, 64, 65, 119, 120, 150] d1 (by decide) (by decide)).mono ?_
  rintro e W2 ⟨v, rfl, ⟨xa, rfl, hxa⟩, d2, k2⟩
  have gxa : xa ≤ 150 := by simp at hxa; omega
  go_wp2_with fail
  refine (S_Bytes w W2 w.heap.size A n c l xa d2 (by omega)).mono ?_
  rintro e W3 ⟨v, rfl, ⟨Aa, na, ca, ra, rfl, oa, la⟩, d3, k3⟩
  go_wp2_with fail
  have s1 := d1.bel.size
  have s2 := k2.size
  have s3 := k3.size
  exact bodyPost_ret (v := .slice Aa na ca) (by simp [results, Try.results45, go_sem]) rfl ⟨Aa, na, ca, ra, rfl, ⟨(oa.less d2.bel.size).more (by omega), by omega⟩, d3.bel⟩

end Go.Proofs.Ytbjbncmhnhlkpaa
