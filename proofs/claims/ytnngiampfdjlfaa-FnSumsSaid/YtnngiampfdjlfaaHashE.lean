/- Contracts of DrawHashAdd, DrawSha (package spec): what the laws want of them: some Hash, some bytes. -/
import Derived.Test.YtnngiampfdjlfaaHashD
import Derived.Deep.RegionHeld3
namespace Go.Proofs.Ytnngiampfdjlfaa
open Go.ChangeShapes Go.WideShapes Go.ChangeAt Go.RowKit
set_option linter.unusedVariables false

theorem z_of (z : Int) (h : z ∈ ([0, 1, 10, 63, 64, 65, 130] : List Int)) : z ≤ 130 ∧ z ≤ 1048576 := by simp at h; omega
set_option maxHeartbeats 2000000 in
theorem S_DrawHashAdd (A : Option Addr) (n c : Nat) (l : List UInt8) (w : World) (h : Rd w A n c (bv l)) :
    Calls Try.prog 20 #[.slice A n c] w fun e w' => ∃ (v : Value) (Ab : Option Addr) (nb cb : Nat) (rb : List UInt8), e = .returned (.tuple #[v, .slice Ab nb cb]) ∧
      (∃ (B : Option Addr) (m q : Nat) (D : Option Addr) (p r : Nat) (k : Int), v = .agg #[.slice B m q, .slice D p r, .int .i64 k]) ∧
      (Ow w' 5 Ab nb cb w.heap.size w'.heap.size (bv rb) ∧ rb.length ≤ 130) ∧ Below w.heap.size w w' := by
  obtain ⟨W0, hW0⟩ : ∃ V, V = w.alloc (.cells #[.slice none 0 0, .slice none 0 0, .int .i64 0] 31) := ⟨_, rfl⟩
  have b0 : Below w.heap.size w W0 := by rw [hW0]; exact balloc (Below.refl _ _) _
  have R0 : Wx W0 w.heap.size (.slice none 0 0) (.slice none 0 0) (.int .i64 0) := by rw [hW0]; exact Wx.new _ _ _ _ _
  have z0 : w.heap.size < W0.heap.size := R0.lt
  have HW := Lib.hid hW0
  clear hW0
  go_enter Try.func20, Try.ntmps20
  go_wp2_with fail
  rw [← HW.out]
  refine (S_New A n c l W0 (h.below b0 (Nat.le_refl _))).mono ?_
  rintro e W1 ⟨rfl, d1, b1⟩
  have R1 := R0.below b1 z0
  have gne : W0.heap.size ≠ w.heap.size := Nat.ne_of_gt z0
  clear b1
  go_wp2_with fail
  refine (S_L2Hash W0 W1 W0.heap.size A n c l d1).mono ?_
  rintro e W2 ⟨v, rfl, ⟨B, m, q, D, p, r, k, rfl⟩, d2, k2⟩
  have R2 := R1.kp k2 gne
  obtain ⟨W3, hW3⟩ : ∃ V, V = W2.alloc (.cells #[.slice B m q, .slice D p r, .int .i64 k] 31) := ⟨_, rfl⟩
  have b3 : Below W2.heap.size W2 W3 := by rw [hW3]; exact balloc (Below.refl _ _) _
  have X3 : Wx W3 W2.heap.size (.slice B m q) (.slice D p r) (.int .i64 k) := by rw [hW3]; exact Wx.new _ _ _ _ _
  have d3 := d2.below b3
  have R3 := R2.below b3 R2.lt
  have gx : W0.heap.size ≠ W2.heap.size := Nat.ne_of_lt d2.lt
  have xr : w.heap.size ≠ W2.heap.size := Nat.ne_of_lt R2.lt
  have HW3 := Lib.hid hW3
  have bd : Below W3.heap.size W3 W3.drew := bdrew (Below.refl _ _)
  have dD := d3.below bd
  have XD := X3.below bd X3.lt
  have RD := R3.below bd R3.lt
  have zx : W2.heap.size < W3.drew.heap.size := XD.lt
  have s03 : W0.heap.size ≤ W3.heap.size := d3.bel.size
  clear hW3
  go_wp2_with fail
  rw [← HW3.out]
  go_region_held3 (fun w' => w'.cell? ⟨W2.heap.size, 0, none⟩ = some (.slice B m q) ∧ w'.cell? ⟨W2.heap.size, 1, none⟩ = some (.slice D p r) ∧ w'.cell? ⟨W2.heap.size, 2, none⟩ = some (.int .i64 k))
    (first | exact three XD.bx | exact three (XD.below (balloc (Below.refl _ _) _) zx).bx | exact three X4.bx | exact three X5.bx | exact three (((X5.far (p := (⟨w.heap.size, 0, none⟩ : Addr)) xr).far (p := (⟨w.heap.size, 1, none⟩ : Addr)) xr).far (p := (⟨w.heap.size, 2, none⟩ : Addr)) xr).bx)
    (first
      | (go_at_call 41; refine (S_IntL W0 W3.drew W0.heap.size A n c l [0, 1, 10, 63, 64, 65, 130] dD (by decide) (by decide)).mono ?_; rintro e W4 ⟨v, rfl, ⟨z, rfl, hz⟩, d4, k4⟩; have X4 := XD.kp k4 gx; have R4 := RD.kp k4 gne; have hz2 := z_of z hz)
      | (go_at_call 40; refine (S_Bytes W0 W4 W0.heap.size A n c l z d4 hz2.2).mono ?_; rintro e W5 ⟨v, rfl, ⟨Ab, nb, cb, rb, rfl, ob, lb⟩, d5, k5⟩; have X5 := X4.kp k5 gx; have R5 := R4.kp k5 gne; obtain ⟨r0, r1, r2, r3, r4, r5⟩ := R5.cells3))
  have s4 : W3.heap.size ≤ W4.heap.size := k4.size
  clear r0 r1 r2 r3 r4 r5
  obtain ⟨r0, r1, r2, r3, r4, r5⟩ := R5.cells3
  go_wp2_with fail
  refine bodyPost_ret (v := .tuple #[.agg #[.slice B m q, .slice D p r, .int .i64 k], .slice Ab nb cb]) (by simp [results, Try.results20, go_sem, r0, r1, r2]) rfl ⟨_, Ab, nb, cb, rb, rfl, ⟨_, _, _, _, _, _, _, rfl⟩, ⟨?_, by omega⟩, ?_⟩
  · have hlt : ∀ o, (⟨w.heap.size, o, none⟩ : Addr).block < W4.heap.size := fun o => by show w.heap.size < _; omega
    exact ((((ob.set_ (hlt 0) _).set_ (hlt 1) _).set_ (hlt 2) _).less (by omega)).more (by simp)
  · have bb := bnext b0 d5.bel
    repeat (first | exact bb | refine Below.setCell ?_ (by exact Nat.le_refl _) _)

theorem S_DrawSha2 (A : Option Addr) (n c : Nat) (l : List UInt8) (w : World) (h : Rd w A n c (bv l)) :
    Calls Try.prog 19 #[.slice A n c] w fun e w' => ∃ (Ab : Option Addr) (nb cb : Nat) (rb : List UInt8), e = .returned (.slice Ab nb cb) ∧ (Ow w' 5 Ab nb cb w.heap.size w'.heap.size (bv rb) ∧ rb.length ≤ 150) ∧ Below w.heap.size w w' := by
  go_enter Try.func19, Try.ntmps19
  go_wp2_with fail
  refine (S_New A n c l w h).mono ?_
  rintro e W1 ⟨rfl, d1, b1⟩
  clear b1
  go_wp2_with fail
  refine (S_IntL w W1 w.heap.size A n c l [0, 3, 54, 55, 56, 57, 63, 64, 65, 119, 120, 150] d1 (by decide) (by decide)).mono ?_
  rintro e W2 ⟨v, rfl, ⟨x, rfl, hx⟩, d2, k2⟩
  have gx : x ≤ 150 := by simp at hx; omega
  go_wp2_with fail
  refine (S_Bytes w W2 w.heap.size A n c l x d2 (by omega)).mono ?_
  rintro e W3 ⟨v, rfl, ⟨Aa, na, ca, ra, rfl, oa, la⟩, d3, k3⟩
  go_wp2_with fail
  exact bodyPost_ret (v := .slice Aa na ca) (by simp [results, Try.results19, go_sem]) rfl ⟨Aa, na, ca, ra, rfl, ⟨oa.less d2.bel.size, by omega⟩, d3.bel⟩

end Go.Proofs.Ytnngiampfdjlfaa
