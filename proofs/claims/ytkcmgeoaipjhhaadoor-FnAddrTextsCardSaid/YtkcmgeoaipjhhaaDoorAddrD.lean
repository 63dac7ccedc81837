/- Contracts of the Draw functions over addresses (package spec): an address, one with an odd field, some bytes and an address. -/
import Derived.Test.YtkcmgeoaipjhhaaDoorPAddr
import Derived.Test.YtkcmgeoaipjhhaaDoorDrawH
namespace Go.Proofs.YtkcmgeoaipjhhaaDoor
open Go.ChangeShapes Go.WideShapes Go.ChangeAt Go.RowKit
set_option linter.unusedVariables false

/-- Two cells of block g, that can be written. -/
structure Q2 (w : World) (g : Nat) (u v : Value) : Prop where
  c0 : w.cell? ⟨g, 0, none⟩ = some u
  c1 : w.cell? ⟨g, 1, none⟩ = some v
  f0 : w.frozen? ⟨g, 0, none⟩ = false
  f1 : w.frozen? ⟨g, 1, none⟩ = false
theorem Q2.new (w : World) (t : TypeId) (u v : Value) : Q2 (w.alloc (.cells #[u, v] t)) w.heap.size u v := ⟨by simp [go_sem], by simp [go_sem], by simp [go_sem], by simp [go_sem]⟩
theorem Q2.lt {w : World} {g : Nat} {u v : Value} (h : Q2 w g u v) : g < w.heap.size := World.block_lt_of_cell? w _ h.c0
theorem Q2.kp {w w' : World} {g k : Nat} {u v : Value} (h : Q2 w g u v) (hg : Kp k w w') (hne : k ≠ g) : Q2 w' g u v := by
  have hlt := h.lt
  have e : ∀ o, w'.heap[(⟨g, o, none⟩ : Addr).block]? = w.heap[(⟨g, o, none⟩ : Addr).block]? := fun o => hg.block g hlt fun e => hne (Option.some.inj e).symm
  exact ⟨(World.cell?_of_block (e 0)).trans h.c0, (World.cell?_of_block (e 1)).trans h.c1, (World.frozen?_of_block (e 0)).trans h.f0, (World.frozen?_of_block (e 1)).trans h.f1⟩
theorem Q2.below {w w' : World} {g X : Nat} {u v : Value} (h : Q2 w g u v) (hb : Below X w w') (hX : g < X) : Q2 w' g u v :=
  ⟨(hb.cell (p := ⟨g, 0, none⟩) hX).trans h.c0, (hb.cell (p := ⟨g, 1, none⟩) hX).trans h.c1, (hb.frozen (p := ⟨g, 0, none⟩) hX).trans h.f0, (hb.frozen (p := ⟨g, 1, none⟩) hX).trans h.f1⟩

set_option maxHeartbeats 1000000 in
theorem S_L6Draw (w0 w : World) (g : Nat) (A : Option Addr) (n c : Nat) (l : List UInt8) (d : Dn w0 w g A n c l) :
    Calls Tryd.prog 39 #[.pointer (some ⟨g, 0, none⟩)] w fun e w' => Drew w0 w g A n c l (fun v _ => ∃ a b : Int, v = .agg #[.int .i64 a, .int .i64 b]) e w' := by
  have hg := d.lt
  obtain ⟨W0, hW0⟩ : ∃ V, V = w.alloc (.cells #[.int .i64 0, .int .i64 0] 23) := ⟨_, rfl⟩
  have b0 : Below w.heap.size w W0 := by rw [hW0]; exact balloc (Below.refl _ _) _
  have R0 : Q2 W0 w.heap.size (.int .i64 0) (.int .i64 0) := by rw [hW0]; exact Q2.new _ _ _ _
  have d0 := d.below b0
  have k0 := Kp.of_below (g := g) b0
  have HW := Lib.hid hW0
  have gne : g ≠ w.heap.size := Nat.ne_of_lt hg
  clear hW0
  have fin : ∀ (W : World) (a b : Int), Dn w0 W g A n c l → Kp g w W → Dn w0 ((W.setCell ⟨w.heap.size, 0, none⟩ (.int .i64 a)).setCell ⟨w.heap.size, 1, none⟩ (.int .i64 b)) g A n c l ∧ Kp g w ((W.setCell ⟨w.heap.size, 0, none⟩ (.int .i64 a)).setCell ⟨w.heap.size, 1, none⟩ (.int .i64 b)) := fun W a b dW kW => by
    have bb : Below w.heap.size W ((W.setCell ⟨w.heap.size, 0, none⟩ (.int .i64 a)).setCell ⟨w.heap.size, 1, none⟩ (.int .i64 b)) := ((Below.refl _ _).setCell (p := (⟨w.heap.size, 0, none⟩ : Addr)) (Nat.le_refl _) _).setCell (p := (⟨w.heap.size, 1, none⟩ : Addr)) (Nat.le_refl _) _
    exact ⟨dW.belowX bb hg d.bel.size, kW.more bb⟩
  have FIN := Lib.hid fin
  clear fin
  go_enter Tryd.func39, Tryd.ntmps39
  go_wp2_with fail
  rw [← HW.out]
  refine (S_Once w0 W0 g A n c l 3 d0).mono ?_
  rintro e W1 ⟨v, rfl, ⟨b, rfl⟩, d1, k1⟩
  have R1 := R0.kp k1 gne
  have K1 := k0.trans k1
  cases b with
  | true =>
    go_wp2_with fail
    refine (S_Below w0 W1 g A n c l 16777216 d1).mono ?_
    rintro e W2 ⟨v, rfl, ⟨x, rfl, hx0, hx1, _⟩, d2, k2⟩
    have hx2 := hx1 (by omega)
    have R2 := R1.kp k2 gne
    have K2 := K1.trans k2
    go_wp2_with fail
    refine (S_Byte w0 W2 g A n c l d2).mono ?_
    rintro e W3 ⟨v, rfl, ⟨y, rfl, hy0, hy1⟩, d3, k3⟩
    have R3 := R2.kp k3 gne
    have K3 := K2.trans k3
    go_wp2_with fail
    refine (S_Below w0 W3 g A n c l 65536 d3).mono ?_
    rintro e W4 ⟨v, rfl, ⟨z, rfl, hz0, hz1, _⟩, d4, k4⟩
    have R4 := R3.kp k4 gne
    have K4 := K3.trans k4
    have F := FIN.out W4 (x * 256 + y) z d4 K4
    obtain ⟨q0, q1, q2, q3⟩ := R4
    go_wp2_with fail
    exact bodyPost_ret (v := .agg #[.int .i64 (x * 256 + y), .int .i64 z]) (by simp [results, Tryd.results39, go_sem, q0, q1]) rfl ⟨_, rfl, ⟨_, _, rfl⟩, F.1, F.2⟩
  | false =>
    go_wp2_with fail
    refine (S_Below w0 W1 g A n c l 6 d1).mono ?_
    rintro e W2 ⟨v, rfl, ⟨x, rfl, hx0, hx1, _⟩, d2, k2⟩
    have R2 := R1.kp k2 gne
    have K2 := K1.trans k2
    go_wp2_with fail
    refine (S_Near x W2).mono ?_
    rintro e W3 ⟨rfl, b3⟩
    have R3 := R2.below b3 R2.lt
    have d3 := d2.below b3
    have K3 := K2.trans (Kp.of_below b3)
    have F := FIN.out W3 (nearH x) (nearP x) d3 K3
    obtain ⟨q0, q1, q2, q3⟩ := R3
    go_wp2_with fail
    exact bodyPost_ret (v := .agg #[.int .i64 (nearH x), .int .i64 (nearP x)]) (by simp [results, Tryd.results39, go_sem, q0, q1]) rfl ⟨_, rfl, ⟨_, _, rfl⟩, F.1, F.2⟩

set_option maxHeartbeats 1000000 in
theorem S_L6Any (w0 w : World) (g : Nat) (A : Option Addr) (n c : Nat) (l : List UInt8) (d : Dn w0 w g A n c l) :
    Calls Tryd.prog 31 #[.pointer (some ⟨g, 0, none⟩)] w fun e w' => Drew w0 w g A n c l (fun v _ => ∃ a b : Int, v = .agg #[.int .i64 a, .int .i64 b]) e w' := by
  have hg := d.lt
  obtain ⟨W0, hW0⟩ : ∃ V, V = w.alloc (.cells #[.int .i64 0, .int .i64 0] 23) := ⟨_, rfl⟩
  have b0 : Below w.heap.size w W0 := by rw [hW0]; exact balloc (Below.refl _ _) _
  have R0 : Q2 W0 w.heap.size (.int .i64 0) (.int .i64 0) := by rw [hW0]; exact Q2.new _ _ _ _
  have d0 := d.below b0
  have k0 := Kp.of_below (g := g) b0
  have HW := Lib.hid hW0
  have gne : g ≠ w.heap.size := Nat.ne_of_lt hg
  clear hW0
  have fin : ∀ (W : World) (a b : Int), Dn w0 W g A n c l → Kp g w W → Dn w0 ((W.setCell ⟨w.heap.size, 0, none⟩ (.int .i64 a)).setCell ⟨w.heap.size, 1, none⟩ (.int .i64 b)) g A n c l ∧ Kp g w ((W.setCell ⟨w.heap.size, 0, none⟩ (.int .i64 a)).setCell ⟨w.heap.size, 1, none⟩ (.int .i64 b)) := fun W a b dW kW => by
    have bb : Below w.heap.size W ((W.setCell ⟨w.heap.size, 0, none⟩ (.int .i64 a)).setCell ⟨w.heap.size, 1, none⟩ (.int .i64 b)) := ((Below.refl _ _).setCell (p := (⟨w.heap.size, 0, none⟩ : Addr)) (Nat.le_refl _) _).setCell (p := (⟨w.heap.size, 1, none⟩ : Addr)) (Nat.le_refl _) _
    exact ⟨dW.belowX bb hg d.bel.size, kW.more bb⟩
  have FIN := Lib.hid fin
  clear fin
  go_enter Tryd.func31, Tryd.ntmps31
  go_wp2_with fail
  rw [← HW.out]
  refine (S_L6Draw w0 W0 g A n c l d0).mono ?_
  rintro e W1 ⟨v, rfl, ⟨a, b, rfl⟩, d1, k1⟩
  have R1 := R0.kp k1 gne
  have K1 := k0.trans k1
  obtain ⟨W2, hW2⟩ : ∃ V, V = W1.alloc (.cells #[.int .i64 a, .int .i64 b] 23) := ⟨_, rfl⟩
  have b2 : Below W1.heap.size W1 W2 := by rw [hW2]; exact balloc (Below.refl _ _) _
  have X2 : Q2 W2 W1.heap.size (.int .i64 a) (.int .i64 b) := by rw [hW2]; exact Q2.new _ _ _ _
  have d2 := d1.below b2
  have R2 := R1.below b2 R1.lt
  have K2 := K1.trans (Kp.of_below b2)
  have HW2 := Lib.hid hW2
  have gx : g ≠ W1.heap.size := Nat.ne_of_lt d1.lt
  have rx : w.heap.size < W1.heap.size := R1.lt
  clear hW2
  go_wp2_with fail
  rw [← HW2.out]
  refine (S_Below w0 W2 g A n c l 10 d2).mono ?_
  rintro e W3 ⟨v, rfl, ⟨x, rfl, hx0, hx1, _⟩, d3, k3⟩
  have R3 := R2.kp k3 gne
  have X3 := X2.kp k3 gx
  have K3 := K2.trans k3
  clear hx1 HW2
  by_cases x0 : x = 0
  · subst x0
    go_wp2_with fail
    refine (S_Odd w0 W3 g A n c l d3).mono ?_
    rintro e W4 ⟨v, rfl, ⟨y, rfl, hy⟩, d4, k4⟩
    have R4 := R3.kp k4 gne
    have X4 := X3.kp k4 gx
    have K4 := K3.trans k4
    have bs : Below W1.heap.size W4 (W4.setCell ⟨W1.heap.size, 0, none⟩ (.int .i64 y)) := (Below.refl _ _).setCell (p := (⟨W1.heap.size, 0, none⟩ : Addr)) (Nat.le_refl _) _
    have d5 := d4.belowX bs d1.lt d1.bel.size
    have K5 := K4.trans (Kp.refl g W4)
    have K6 : Kp g w (W4.setCell ⟨W1.heap.size, 0, none⟩ (.int .i64 y)) := K4.more (bs.mono (Nat.le_of_lt rx))
    have F := FIN.out _ y b d5 K6
    obtain ⟨p0, p1, p2, p3⟩ := X4
    obtain ⟨q0, q1, q2, q3⟩ := R4.below bs rx
    obtain ⟨r0, r1, r2, r3⟩ := R4
    go_wp2_with fail
    exact bodyPost_ret (v := .agg #[.int .i64 y, .int .i64 b]) (by simp [results, Tryd.results31, go_sem, r0, r1]) rfl ⟨_, rfl, ⟨_, _, rfl⟩, F.1, F.2⟩
  by_cases x1 : x = 1
  · subst x1
    have C := Lib.hid (S_IntL w0 W3 g A n c l [-1, 65535, 65536, 0] d3 (by decide) (by decide))
    go_wp2_with fail
    refine C.out.mono ?_
    rintro e W4 ⟨v, rfl, ⟨y, rfl, hy⟩, d4, k4⟩
    have R4 := R3.kp k4 gne
    have X4 := X3.kp k4 gx
    have K4 := K3.trans k4
    have bs : Below W1.heap.size W4 (W4.setCell ⟨W1.heap.size, 1, none⟩ (.int .i64 y)) := (Below.refl _ _).setCell (p := (⟨W1.heap.size, 1, none⟩ : Addr)) (Nat.le_refl _) _
    have d5 := d4.belowX bs d1.lt d1.bel.size
    have K6 : Kp g w (W4.setCell ⟨W1.heap.size, 1, none⟩ (.int .i64 y)) := K4.more (bs.mono (Nat.le_of_lt rx))
    have F := FIN.out _ a y d5 K6
    obtain ⟨p0, p1, p2, p3⟩ := X4
    obtain ⟨r0, r1, r2, r3⟩ := R4
    clear hy
    go_wp2_with fail
    exact bodyPost_ret (v := .agg #[.int .i64 a, .int .i64 y]) (by simp [results, Tryd.results31, go_sem, r0, r1]) rfl ⟨_, rfl, ⟨_, _, rfl⟩, F.1, F.2⟩
  · have e0 : (x == 0) = false := by rw [beq_eq_false_iff_ne]; exact x0
    have e1 : (x == 1) = false := by rw [beq_eq_false_iff_ne]; exact x1
    have F := FIN.out _ a b d3 K3
    obtain ⟨p0, p1, p2, p3⟩ := X3
    obtain ⟨r0, r1, r2, r3⟩ := R3
    clear x0 x1
    go_wp2_with fail
    exact bodyPost_ret (v := .agg #[.int .i64 a, .int .i64 b]) (by simp [results, Tryd.results31, go_sem, r0, r1]) rfl ⟨_, rfl, ⟨_, _, rfl⟩, F.1, F.2⟩

set_option maxHeartbeats 1000000 in
theorem S_DrawPutAddr (A : Option Addr) (n c : Nat) (l : List UInt8) (w : World) (h : Rd w A n c (bv l)) :
    Calls Tryd.prog 11 #[.slice A n c] w fun e w' => ∃ (Aa : Option Addr) (na ca : Nat) (ra : List UInt8) (a b : Int), e = .returned (.tuple #[.slice Aa na ca, .agg #[.int .i64 a, .int .i64 b]]) ∧
      (Ow w' 5 Aa na ca w.heap.size w'.heap.size (bv ra) ∧ ra.length ≤ 3) ∧ Below w.heap.size w w' := by
  obtain ⟨W0, hW0⟩ : ∃ V, V = w.alloc (.cells #[.int .i64 0, .int .i64 0] 23) := ⟨_, rfl⟩
  have b0 : Below w.heap.size w W0 := by rw [hW0]; exact balloc (Below.refl _ _) _
  have R0 : Q2 W0 w.heap.size (.int .i64 0) (.int .i64 0) := by rw [hW0]; exact Q2.new _ _ _ _
  have z0 : w.heap.size < W0.heap.size := R0.lt
  have HW := Lib.hid hW0
  clear hW0
  go_enter Tryd.func11, Tryd.ntmps11
  go_wp2_with fail
  rw [← HW.out]
  refine (S_New A n c l W0 (h.below b0 (Nat.le_refl _))).mono ?_
  rintro e W1 ⟨rfl, d1, b1⟩
  have R1 := R0.below b1 z0
  have gne : W0.heap.size ≠ w.heap.size := Nat.ne_of_gt z0
  clear b1
  go_wp2_with fail
  refine (S_Below W0 W1 W0.heap.size A n c l 3 d1).mono ?_
  rintro e W2 ⟨v, rfl, ⟨x, rfl, hx0, hx1, _⟩, d2, k2⟩
  have hx2 := hx1 (by omega)
  have R2 := R1.kp k2 gne
  clear hx1
  go_wp2_with fail
  refine (S_Bytes W0 W2 W0.heap.size A n c l x d2 (by omega)).mono ?_
  rintro e W3 ⟨v, rfl, ⟨Aa, na, ca, ra, rfl, oa, la⟩, d3, k3⟩
  have R3 := R2.kp k3 gne
  go_wp2_with fail
  refine (S_L6Any W0 W3 W0.heap.size A n c l d3).mono ?_
  rintro e W4 ⟨v, rfl, ⟨a, b, rfl⟩, d4, k4⟩
  have R4 := R3.kp k4 gne
  replace oa := oa.kp k4 d2.lt
  have s4 := k4.size
  have s2 := d2.bel.size
  obtain ⟨q0, q1, q2, q3⟩ := R4
  go_wp2_with fail
  refine bodyPost_ret (v := .tuple #[.slice Aa na ca, .agg #[.int .i64 a, .int .i64 b]]) (by simp [results, Tryd.results11, go_sem, q0, q1]) rfl ⟨Aa, na, ca, ra, a, b, rfl, ⟨?_, by omega⟩, ?_⟩
  · have hlt : ∀ o, (⟨w.heap.size, o, none⟩ : Addr).block < W2.heap.size := fun o => by show w.heap.size < _; omega
    exact (((oa.set_ (hlt 0) _).set_ (hlt 1) _).less (by omega)).more (by simp; omega)
  · have bb := bnext b0 d4.bel
    repeat (first | exact bb | refine Below.setCell ?_ (by exact Nat.le_refl _) _)

end Go.Proofs.YtkcmgeoaipjhhaaDoor
