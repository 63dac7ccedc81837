/- Contracts of the laws' szHash and toHash. -/
import Derived.Test.YtnngiampfdjlfaaHash
import Derived.Test.YtnngiampfdjlfaaToByte
import Derived.Test.YtnngiampfdjlfaaToInt
import Derived.Deep.RegionHeld3
namespace Go.Proofs.Ytnngiampfdjlfaa
open Go.ChangeShapes Go.WideShapes Go.ChangeAt Go.RowKit
set_option linter.unusedVariables false

theorem L_szI_yes (A : Option Addr) (n c x : Nat) (w : World) (hx : n ≤ x) (hX : x ≤ 1048576) : Calls Try.prog 27 #[.slice A n c, .int .i64 (x : Int)] w fun e w' => e = .returned (.int .i64 ((x - n : Nat) : Int)) ∧ w = w' := by
  have e1 : IntKind.i64.wrap ((x : Int) - (n : Int)) = ((x - n : Nat) : Int) := by rw [IntKind.wrap_i64]; omega
  have e2 : ¬ ((x - n : Nat) : Int) < 0 := by omega
  generalize hk : x - n = k at *
  clear hk hx hX
  go_enter Try.func27, Try.ntmps27
  go_wp2_with fail
  exact bodyPost_ret (v := .int .i64 (k : Int)) (by simp [results, Try.results27, go_sem]) rfl ⟨rfl, rfl⟩
theorem L_szI_no (A : Option Addr) (n c x : Nat) (w : World) (hx : ¬ n ≤ x) (hX : x ≤ 1048576) (hc : n ≤ c ∧ c ≤ 9223372036854775807) : Calls Try.prog 27 #[.slice A n c, .int .i64 (x : Int)] w fun e w' => e = .returned (.int .i64 (-1)) ∧ w = w' := by
  have e1 : IntKind.i64.wrap ((x : Int) - (n : Int)) = (x : Int) - n := by rw [IntKind.wrap_i64]; omega
  have e2 : (x : Int) < n := by omega
  have e3 : (x : Int) - n < 0 := by omega
  clear hx hX hc
  go_enter Try.func27, Try.ntmps27
  go_wp2_with fail
  exact bodyPost_ret (v := .int .i64 (-1)) (by simp [results, Try.results27, go_sem]) rfl ⟨rfl, rfl⟩
theorem L_szB_yes (A : Option Addr) (n c x : Nat) (w : World) (hx : n ≤ x) (hX : x ≤ 1048576) : Calls Try.prog 28 #[.slice A n c, .int .i64 (x : Int)] w fun e w' => e = .returned (.int .i64 ((x - n : Nat) : Int)) ∧ w = w' := by
  have e1 : IntKind.i64.wrap ((x : Int) - (n : Int)) = ((x - n : Nat) : Int) := by rw [IntKind.wrap_i64]; omega
  have e2 : ¬ ((x - n : Nat) : Int) < 0 := by omega
  generalize hk : x - n = k at *
  clear hk hx hX
  go_enter Try.func28, Try.ntmps28
  go_wp2_with fail
  exact bodyPost_ret (v := .int .i64 (k : Int)) (by simp [results, Try.results28, go_sem]) rfl ⟨rfl, rfl⟩
theorem L_szB_no (A : Option Addr) (n c x : Nat) (w : World) (hx : ¬ n ≤ x) (hX : x ≤ 1048576) (hc : n ≤ c ∧ c ≤ 9223372036854775807) : Calls Try.prog 28 #[.slice A n c, .int .i64 (x : Int)] w fun e w' => e = .returned (.int .i64 (-1)) ∧ w = w' := by
  have e1 : IntKind.i64.wrap ((x : Int) - (n : Int)) = (x : Int) - n := by rw [IntKind.wrap_i64]; omega
  have e2 : (x : Int) < n := by omega
  have e3 : (x : Int) - n < 0 := by omega
  clear hx hX hc
  go_enter Try.func28, Try.ntmps28
  go_wp2_with fail
  exact bodyPost_ret (v := .int .i64 (-1)) (by simp [results, Try.results28, go_sem]) rfl ⟨rfl, rfl⟩

theorem L_szHash_yes (A B : Option Addr) (n c m d : Nat) (a : Int) (w : World) (hs : n + m ≤ 1048576) :
    Calls Try.prog 10 #[hashV A n c B m d a, .int .i64 1048576] w fun e w' => e = .returned (.int .i64 ((1048576 - n - m : Nat) : Int)) ∧ Below w.heap.size w w' := by
  have C1 := Lib.hid fun W => L_szI_yes A n c 1048576 W (by omega) (Nat.le_refl _)
  have C2 := Lib.hid fun W => L_szB_yes B m d (1048576 - n) W (by omega) (by omega)
  have n1 : ¬ ((1048576 - n : Nat) : Int) < 0 := by omega
  have n2 : ¬ ((1048576 - n - m : Nat) : Int) < 0 := by omega
  generalize 1048576 - n = x at *
  generalize x - m = y at *
  clear hs
  go_enter Try.func10, Try.ntmps10
  go_wp2_with fail
  refine (C1.out _).mono ?_
  rintro e W1 ⟨rfl, rfl⟩
  go_wp2_with fail
  refine (C2.out _).mono ?_
  rintro e W1 ⟨rfl, rfl⟩
  go_wp2_with fail
  exact bodyPost_ret (v := .int .i64 (y : Int)) (by simp [results, Try.results10, go_sem]) rfl ⟨rfl, balloc (Below.refl _ _) _⟩

theorem L_szHash_no (A B : Option Addr) (n c m d : Nat) (a : Int) (w : World) (hs : ¬ n + m ≤ 1048576) (hb : n ≤ c ∧ c ≤ 9223372036854775807) (hc : m ≤ d ∧ d ≤ 9223372036854775807) :
    Calls Try.prog 10 #[hashV A n c B m d a, .int .i64 1048576] w fun e w' => e = .returned (.int .i64 (-1)) ∧ Below w.heap.size w w' := by
  by_cases h1 : n ≤ 1048576
  · have C1 := Lib.hid fun W => L_szI_yes A n c 1048576 W h1 (Nat.le_refl _)
    have C2 := Lib.hid fun W => L_szB_no B m d (1048576 - n) W (by omega) (by omega) hc
    have n1 : ¬ ((1048576 - n : Nat) : Int) < 0 := by omega
    generalize 1048576 - n = x at *
    clear hs h1
    go_enter Try.func10, Try.ntmps10
    go_wp2_with fail
    refine (C1.out _).mono ?_
    rintro e W1 ⟨rfl, rfl⟩
    go_wp2_with fail
    refine (C2.out _).mono ?_
    rintro e W1 ⟨rfl, rfl⟩
    go_wp2_with fail
    exact bodyPost_ret (v := .int .i64 (-1)) (by simp [results, Try.results10, go_sem]) rfl ⟨rfl, balloc (Below.refl _ _) _⟩
  · have C1 := Lib.hid fun W => L_szI_no A n c 1048576 W h1 (Nat.le_refl _) hb
    clear hs h1
    go_enter Try.func10, Try.ntmps10
    go_wp2_with fail
    refine (C1.out _).mono ?_
    rintro e W1 ⟨rfl, rfl⟩
    go_wp2_with fail
    exact bodyPost_ret (v := .int .i64 (-1)) (by simp [results, Try.results10, go_sem]) rfl ⟨rfl, balloc (Below.refl _ _) _⟩

theorem cell_set_ne (w : World) (p q : Addr) (v : Value) (h : q ≠ p) : (w.setCell p v).cell? q = w.cell? q := by
  first | exact World.cell?_setCell_other _ _ _ _ h | exact World.cell?_setCell_other _ _ _ _ (Ne.symm h)
theorem cell_set_eq {w : World} {p : Addr} {u : Value} (h : w.cell? p = some u) (v : Value) : (w.setCell p v).cell? p = some v := by
  simp [go_sem, h]

set_option maxHeartbeats 1000000 in
theorem L_toHash (A B : Option Addr) (n c m d : Nat) (l : List Int) (h : List UInt8) (a : Int) (w : World) (r1 : Rd w A n c (iv l)) (r2 : Rd w B m d (bv h)) (hs : n + m ≤ 1048576) :
    Calls Try.prog 12 #[hashV A n c B m d a] w fun e w' => OutH w l h a e w' := by
  have hn : n ≤ 1048576 := by omega
  have hm : m ≤ 1048576 := by omega
  clear hs
  go_enter Try.func12, Try.ntmps12
  go_wp2_with fail
  obtain ⟨W0, hW0⟩ : ∃ V, V = ((w.alloc (.cells #[.slice A n c, .slice B m d, .int .i64 a] 29)).alloc (.cells #[.slice none 0 0, .slice none 0 0, .int .i64 0] 31)).alloc (.cells #[.slice none 0 0, .slice none 0 0, .int .i64 0] 31) := ⟨_, rfl⟩
  rw [← hW0]
  have B0 : Below w.heap.size w W0 := by rw [hW0]; exact balloc (balloc (balloc (Below.refl _ _) _) _) _
  have z0 : W0.heap.size = w.heap.size + 1 + 1 + 1 := by rw [hW0]; simp
  have a1 : W0.cell? ⟨w.heap.size, 1, none⟩ = some (.slice B m d) := by rw [hW0]; simp [go_sem]
  have a2 : W0.cell? ⟨w.heap.size, 2, none⟩ = some (.int .i64 a) := by rw [hW0]; simp [go_sem]
  have p0 : W0.cell? ⟨w.heap.size + 1, 0, none⟩ = some (.slice none 0 0) := by rw [hW0]; simp [go_sem]
  have p1 : W0.cell? ⟨w.heap.size + 1, 1, none⟩ = some (.slice none 0 0) := by rw [hW0]; simp [go_sem]
  have p2 : W0.cell? ⟨w.heap.size + 1, 2, none⟩ = some (.int .i64 0) := by rw [hW0]; simp [go_sem]
  have q0 : W0.cell? ⟨w.heap.size + 1 + 1, 0, none⟩ = some (.slice none 0 0) := by rw [hW0]; simp [go_sem]
  have q1 : W0.cell? ⟨w.heap.size + 1 + 1, 1, none⟩ = some (.slice none 0 0) := by rw [hW0]; simp [go_sem]
  have q2 : W0.cell? ⟨w.heap.size + 1 + 1, 2, none⟩ = some (.int .i64 0) := by rw [hW0]; simp [go_sem]
  have fp : ∀ o, W0.frozen? ⟨w.heap.size + 1, o, none⟩ = false := by rw [hW0]; intro o; simp [go_sem]
  have fq : ∀ o, W0.frozen? ⟨w.heap.size + 1 + 1, o, none⟩ = false := by rw [hW0]; intro o; simp [go_sem]
  clear hW0
  refine (L_toIntS A n c l W0 (r1.below B0 (Nat.le_refl _)) hn).mono ?_
  rintro e W1 ⟨A1, n1, c1, rfl, o1, b1⟩
  have s1 := b1.size
  have y : ∀ x, x < W0.heap.size → ∀ o, W1.cell? ⟨x, o, none⟩ = W0.cell? ⟨x, o, none⟩ := fun x hx o => bcell b1 x o hx
  have yf : ∀ x, x < W0.heap.size → ∀ o, W1.frozen? ⟨x, o, none⟩ = W0.frozen? ⟨x, o, none⟩ := fun x hx o => bfroz b1 x o hx
  replace a1 := (y _ (by omega) _).trans a1
  replace a2 := (y _ (by omega) _).trans a2
  replace p0 := (y _ (by omega) _).trans p0
  replace p1 := (y _ (by omega) _).trans p1
  replace p2 := (y _ (by omega) _).trans p2
  replace q0 := (y _ (by omega) _).trans q0
  replace q1 := (y _ (by omega) _).trans q1
  replace q2 := (y _ (by omega) _).trans q2
  replace fp := fun o => (yf _ (by omega) o).trans (fp o)
  replace fq := fun o => (yf _ (by omega) o).trans (fq o)
  clear y yf
  have B1 := bnext B0 b1
  clear b1
  go_wp2_with fail
  obtain ⟨W2, hW2⟩ : ∃ V, V = W1.setCell ⟨w.heap.size + 1 + 1, 0, none⟩ (.slice A1 n1 c1) := ⟨_, rfl⟩
  rw [← hW2]
  have B2 : Below w.heap.size w W2 := by rw [hW2]; exact B1.setCell (by show w.heap.size ≤ w.heap.size + 1 + 1; omega) _
  have s2 : W2.heap.size = W1.heap.size := by rw [hW2]; simp
  have o2 : Ow W2 3 A1 n1 c1 W0.heap.size W1.heap.size (iv l) := by rw [hW2]; exact o1.set_ (by show w.heap.size + 1 + 1 < _; omega) _
  have y : ∀ p : Addr, p ≠ ⟨w.heap.size + 1 + 1, 0, none⟩ → W2.cell? p = W1.cell? p := fun p hp => by rw [hW2]; exact cell_set_ne W1 _ p _ hp
  replace a2 := (y _ (by intro e; injection e with e; omega)).trans a2
  replace p0 := (y _ (by intro e; injection e with e; omega)).trans p0
  replace p1 := (y _ (by intro e; injection e with e; omega)).trans p1
  replace p2 := (y _ (by intro e; injection e with e; omega)).trans p2
  replace q1 := (y _ (by intro e; injection e with e e'; omega)).trans q1
  replace q2 := (y _ (by intro e; injection e with e e'; omega)).trans q2
  replace q0 : W2.cell? ⟨w.heap.size + 1 + 1, 0, none⟩ = some (.slice A1 n1 c1) := by rw [hW2]; exact cell_set_eq q0 _
  replace fp : ∀ o, W2.frozen? ⟨w.heap.size + 1, o, none⟩ = false := by rw [hW2]; intro o; simpa [go_sem] using fp o
  replace fq : ∀ o, W2.frozen? ⟨w.heap.size + 1 + 1, o, none⟩ = false := by rw [hW2]; intro o; simpa [go_sem] using fq o
  clear y hW2 a1 B1 o1
  refine (L_toByteS B m d h W2 (r2.below B2 (Nat.le_refl _)) hm).mono ?_
  rintro e W3 ⟨A3, n3, c3, rfl, o3, b3⟩
  have s3 := b3.size
  have y : ∀ x, x < W2.heap.size → ∀ o, W3.cell? ⟨x, o, none⟩ = W2.cell? ⟨x, o, none⟩ := fun x hx o => bcell b3 x o hx
  have yf : ∀ x, x < W2.heap.size → ∀ o, W3.frozen? ⟨x, o, none⟩ = W2.frozen? ⟨x, o, none⟩ := fun x hx o => bfroz b3 x o hx
  replace a2 := (y _ (by omega) _).trans a2
  replace p0 := (y _ (by omega) _).trans p0
  replace p1 := (y _ (by omega) _).trans p1
  replace p2 := (y _ (by omega) _).trans p2
  replace q0 := (y _ (by omega) _).trans q0
  replace q1 := (y _ (by omega) _).trans q1
  replace q2 := (y _ (by omega) _).trans q2
  replace fp := fun o => (yf _ (by omega) o).trans (fp o)
  replace fq := fun o => (yf _ (by omega) o).trans (fq o)
  clear y yf
  have B3 := bnext B2 b3
  have o4 := o2.below b3 (by omega)
  clear b3 o2
  go_wp2_with fail
  refine bodyPost_ret (v := .agg #[.slice A1 n1 c1, .slice A3 n3 c3, .int .i64 a]) (by simp [results, Try.results12, go_sem, p0, p1, p2]) rfl ⟨A1, n1, c1, A3, n3, c3, rfl, ⟨?_, ?_⟩, ?_⟩
  · exact (((((o4.set_ (by show w.heap.size + 1 + 1 < _; omega) _).set_ (by show w.heap.size + 1 + 1 < _; omega) _).set_ (by show w.heap.size + 1 < _; omega) _).set_ (by show w.heap.size + 1 < _; omega) _).set_ (by show w.heap.size + 1 < _; omega) _).less (by omega) |>.more (by simp; omega)
  · exact (((((o3.set_ (by show w.heap.size + 1 + 1 < _; omega) _).set_ (by show w.heap.size + 1 + 1 < _; omega) _).set_ (by show w.heap.size + 1 < _; omega) _).set_ (by show w.heap.size + 1 < _; omega) _).set_ (by show w.heap.size + 1 < _; omega) _).less (by omega) |>.more (by simp)
  · repeat (first | exact B3 | refine Below.setCell ?_ (by simp <;> omega) _)

end Go.Proofs.Ytnngiampfdjlfaa
