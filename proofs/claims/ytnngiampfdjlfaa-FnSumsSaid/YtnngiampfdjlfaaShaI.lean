/- Contracts of the program's HashAdd and Sha. -/
import Derived.Test.YtnngiampfdjlfaaHashEnd
import Derived.Test.YtnngiampfdjlfaaClone
import Derived.Test.YtnngiampfdjlfaaStep
namespace Go.Proofs.Ytnngiampfdjlfaa
open Go.ChangeShapes Go.WideShapes Go.ChangeAt Go.RowKit
set_option linter.unusedVariables false

/-- The three parts of HashAdd's answer, on every Hash and every slice of bytes. -/
def addOk (l : List Int) (h : List UInt8) (k : Int) (b : List UInt8) : Prop := hOk l h k = true ∧ (b.length : Int) ≤ 1048576 - k
instance (l : List Int) (h : List UInt8) (k : Int) (b : List UInt8) : Decidable (addOk l h k b) := inferInstanceAs (Decidable (_ ∧ _))
def addW (l : List Int) (h : List UInt8) (k : Int) (b : List UInt8) : List Int := if addOk l h k b then allL l (h ++ b) ((h ++ b).length / 64) else l
def addH (l : List Int) (h : List UInt8) (k : Int) (b : List UInt8) : List UInt8 := if addOk l h k b then (h ++ b).drop (64 * ((h ++ b).length / 64)) else h
def addN (l : List Int) (h : List UInt8) (k : Int) (b : List UInt8) : Int := if addOk l h k b then k + b.length else k


/-- A box in block g that can be written. -/
structure Wx (w : World) (g : Nat) (u v x : Value) : Prop where
  bx : Bx w g u v x
  fr : ∀ o, w.frozen? ⟨g, o, none⟩ = false
theorem Wx.below {w w' : World} {g X : Nat} {u v x : Value} (h : Wx w g u v x) (hb : Below X w w') (hX : g < X) : Wx w' g u v x :=
  ⟨h.bx.below hb hX, fun o => (hb.frozen (p := ⟨g, o, none⟩) hX).trans (h.fr o)⟩
theorem Wx.new (w : World) (t : TypeId) (u v x : Value) : Wx (w.alloc (.cells #[u, v, x] t)) w.heap.size u v x := ⟨Bx.new _ _ _ _ _, fun o => by simp [go_sem]⟩

theorem three {w : World} {g : Nat} {u v x : Value} (a : Bx w g u v x) : w.cell? ⟨g, 0, none⟩ = some u ∧ w.cell? ⟨g, 1, none⟩ = some v ∧ w.cell? ⟨g, 2, none⟩ = some x := ⟨a.c0, a.c1, a.c2⟩
theorem Bx.set_ {w : World} {g : Nat} {u v x : Value} (a : Bx w g u v x) (p : Addr) (y : Value) (h : p.block ≠ g) : Bx (w.setCell p y) g u v x :=
  ⟨(World.cell?_setCell_far w p _ y h).trans a.c0, (World.cell?_setCell_far w p _ y h).trans a.c1, (World.cell?_setCell_far w p _ y h).trans a.c2⟩

set_option maxHeartbeats 1000000 in
theorem I_HashAdd_no (A B : Option Addr) (n c m d : Nat) (l : List Int) (h : List UInt8) (k : Int) (C : Option Addr) (p q : Nat) (b : List UInt8) (w : World) (r1 : Rd w A n c (iv l)) (r2 : Rd w B m d (bv h)) (r3 : Rd w C p q (bv b)) (hm1 : m ≤ 4000000) (hp1 : p ≤ 4000000) (hn1 : n ≤ 8796093022208)
    (hok : hOk l h k = false) :
    Calls Try.prog 13 #[hashV A n c B m d k, .slice C p q] w fun e w' => OutH w l h k e w' := by
  have hb1 := r1.bnd
  have hb2 := r2.bnd
  have hb3 := r3.bnd
  obtain ⟨W00, hW00⟩ : ∃ V, V = w.alloc (.cells #[.slice A n c, .slice B m d, .int .i64 k] 31) := ⟨_, rfl⟩
  obtain ⟨W0, hW0⟩ : ∃ V, V = W00.alloc (.cells #[.slice none 0 0, .slice none 0 0, .int .i64 0] 31) := ⟨_, rfl⟩
  have B00 : Below w.heap.size w W00 := by rw [hW00]; exact balloc (Below.refl _ _) _
  have z00 : W00.heap.size = w.heap.size + 1 := by rw [hW00]; simp
  have B0 : Below w.heap.size w W0 := by rw [hW0]; exact balloc B00 _
  have z0 : W0.heap.size = w.heap.size + 1 + 1 := by rw [hW0]; simp [z00]
  have X0 : Bx W0 w.heap.size (.slice A n c) (.slice B m d) (.int .i64 k) := by
    have : Bx W00 w.heap.size (.slice A n c) (.slice B m d) (.int .i64 k) := by rw [hW00]; exact Bx.new _ _ _ _ _
    exact this.below (X := W00.heap.size) (by rw [hW0]; exact balloc (Below.refl _ _) _) (by omega)
  have Y0 : Wx W0 (w.heap.size + 1) (.slice none 0 0) (.slice none 0 0) (.int .i64 0) := by rw [hW0, ← z00]; exact Wx.new _ _ _ _ _
  have HW0 : Hid (W0 = (w.alloc (.cells #[.slice A n c, .slice B m d, .int .i64 k] 31)).alloc (.cells #[.slice none 0 0, .slice none 0 0, .int .i64 0] 31)) := by rw [← hW00]; exact hW0
  clear hW0 hW00
  have CO := Lib.hid ((I_HashOk A B n c m d l h k W0 (r1.below B0 (Nat.le_refl _)) (r2.below B0 (Nat.le_refl _))).mono fun e w' h' => (⟨by rw [h'.1, hok], h'.2⟩ : e = .returned (.bool false) ∧ Below W0.heap.size W0 w'))
  clear hok
  go_enter Try.func13, Try.ntmps13
  go_wp2_with fail
  rw [← HW0.out]
  refine CO.out.mono ?_
  rintro e W1 ⟨rfl, b1⟩
  have B1 := bnext B0 b1
  have X1 := X0.below b1 (by omega)
  have Y1 := Y0.below b1 (by omega)
  have z1 : w.heap.size + 1 < W1.heap.size := by have := b1.size; omega
  go_wp2_with fail
  obtain ⟨V, hV⟩ : ∃ V, V = W1.drew := ⟨_, rfl⟩
  have BV : Below W1.heap.size W1 V := by rw [hV]; exact bdrew (Below.refl _ _)
  have X2 := X1.below BV (by omega)
  have Y2 := Y1.below BV (by omega)
  have B2 := bnext B1 BV
  have zV : V.heap.size = W1.heap.size := by rw [hV]; rfl
  have r1V := r1.below B2 (Nat.le_refl _)
  have E1 := Lib.hid (fun t => own_empty V t)
  have B3 := fun o => balloc (Below.refl V.heap.size V) o
  have q5 : 0 + n ≤ 70368744177664 / 8 := by omega
  have q6 : ∀ o, V.heap.size ≤ (V.alloc o).heap.size := fun o => by simp
  have zx : w.heap.size < V.heap.size := by omega
  have zy : w.heap.size + 1 < V.heap.size := by omega
  have q9 : m ≤ 70368744177664 := by omega
  subst hV
  go_region_held3 (fun w' => w'.cell? ⟨w.heap.size, 0, none⟩ = some (.slice A n c) ∧ w'.cell? ⟨w.heap.size, 1, none⟩ = some (.slice B m d) ∧ w'.cell? ⟨w.heap.size, 2, none⟩ = some (.int .i64 k))
    (first | exact three X2 | exact three (X2.below (B3 _) zx) | exact three X4 | exact three X5 | exact three (((X5.set_ _ _ (Nat.ne_of_gt (Nat.lt_succ_self _))).set_ _ _ (Nat.ne_of_gt (Nat.lt_succ_self _))).set_ _ _ (Nat.ne_of_gt (Nat.lt_succ_self _))) | fail)
    (first
      | (go_at_call 32; refine (I_clone B m d h W4 (r2.below B4 (Nat.le_refl _)) q9).mono ?_; rintro e W5 ⟨A5, n5, c5, rfl, o5, b5⟩; have X5 := X4.below b5 (Nat.lt_of_lt_of_le zx z4); have Y5 := Y4.below b5 (Nat.lt_of_lt_of_le zy z4); have B5 := bnext B4 b5; obtain ⟨⟨y0, y1, y2⟩, fr5⟩ := Y5; have f0 := fr5 0; have f1 := fr5 1; have f2 := fr5 2)
      | (refine step_append_ints _ rfl _ _ rfl W1.drew.heap.size _ _ _ [] (by simp [Act.eval]) (E1.out _) _ _ _ l (by simp [Act.eval]) (r1V.alloc _) q5 (q6 _) ?_; intro A4 c4 W4 HO4 hb4; have X4 := (X2.below (B3 _) zx).below hb4 zx; have Y4 := (Y2.below (B3 _) zy).below hb4 zy; have bV4 := (B3 _).trans hb4; have B4 := bnext B2 bV4; have z4 := bV4.size))
  have ho4 := HO4.out
  rw [Nat.zero_add, List.nil_append] at ho4
  have o4 := (Ow.of_own ho4).below b5 (Nat.le_refl _)
  have g1 := z4
  have g2 := b5.size
  go_wp2_with fail
  refine bodyPost_ret (v := .agg #[.slice A4 n c4, .slice A5 n5 c5, .int .i64 k]) (by simp [results, Try.results13, go_sem, y0, y1, y2]) rfl ⟨A4, n, c4, A5, n5, c5, rfl, ⟨?_, ?_⟩, ?_⟩
  · exact (((o4.set_ (by show w.heap.size + 1 < _; exact zy) _).set_ (by show w.heap.size + 1 < _; exact zy) _).set_ (by show w.heap.size + 1 < _; exact zy) _).less (by omega) |>.more (by simp; omega)
  · exact (((o5.set_ (by show w.heap.size + 1 < _; omega) _).set_ (by show w.heap.size + 1 < _; omega) _).set_ (by show w.heap.size + 1 < _; omega) _).less (by omega) |>.more (by simp)
  · repeat (first | exact B5 | refine Below.setCell ?_ (by simp <;> omega) _)

set_option maxHeartbeats 1000000 in
theorem I_HashAdd_long (A B : Option Addr) (n c m d : Nat) (l : List Int) (h : List UInt8) (k : Int) (C : Option Addr) (p q : Nat) (b : List UInt8) (w : World) (r1 : Rd w A n c (iv l)) (r2 : Rd w B m d (bv h)) (r3 : Rd w C p q (bv b)) (hm1 : m ≤ 4000000) (hp1 : p ≤ 4000000) (hn1 : n ≤ 8796093022208)
    (hok : hOk l h k = true) (hlong : 1048576 - k < (p : Int)) :
    Calls Try.prog 13 #[hashV A n c B m d k, .slice C p q] w fun e w' => OutH w l h k e w' := by
  have hb1 := r1.bnd
  have hb2 := r2.bnd
  have hb3 := r3.bnd
  obtain ⟨W00, hW00⟩ : ∃ V, V = w.alloc (.cells #[.slice A n c, .slice B m d, .int .i64 k] 31) := ⟨_, rfl⟩
  obtain ⟨W0, hW0⟩ : ∃ V, V = W00.alloc (.cells #[.slice none 0 0, .slice none 0 0, .int .i64 0] 31) := ⟨_, rfl⟩
  have B00 : Below w.heap.size w W00 := by rw [hW00]; exact balloc (Below.refl _ _) _
  have z00 : W00.heap.size = w.heap.size + 1 := by rw [hW00]; simp
  have B0 : Below w.heap.size w W0 := by rw [hW0]; exact balloc B00 _
  have z0 : W0.heap.size = w.heap.size + 1 + 1 := by rw [hW0]; simp [z00]
  have X0 : Bx W0 w.heap.size (.slice A n c) (.slice B m d) (.int .i64 k) := by
    have : Bx W00 w.heap.size (.slice A n c) (.slice B m d) (.int .i64 k) := by rw [hW00]; exact Bx.new _ _ _ _ _
    exact this.below (X := W00.heap.size) (by rw [hW0]; exact balloc (Below.refl _ _) _) (by omega)
  have Y0 : Wx W0 (w.heap.size + 1) (.slice none 0 0) (.slice none 0 0) (.int .i64 0) := by rw [hW0, ← z00]; exact Wx.new _ _ _ _ _
  have HW0 : Hid (W0 = (w.alloc (.cells #[.slice A n c, .slice B m d, .int .i64 k] 31)).alloc (.cells #[.slice none 0 0, .slice none 0 0, .int .i64 0] 31)) := by rw [← hW00]; exact hW0
  clear hW0 hW00
  have CO := Lib.hid ((I_HashOk A B n c m d l h k W0 (r1.below B0 (Nat.le_refl _)) (r2.below B0 (Nat.le_refl _))).mono fun e w' h' => (⟨by rw [h'.1, hok], h'.2⟩ : e = .returned (.bool true) ∧ Below W0.heap.size W0 w'))
  have hkr := ((hOk_iff l h k).1 hok).2.1
  have wk : IntKind.i64.wrap (1048576 - k) = 1048576 - k := by rw [IntKind.wrap_i64]; omega
  clear hok
  go_enter Try.func13, Try.ntmps13
  go_wp2_with fail
  rw [← HW0.out]
  refine CO.out.mono ?_
  rintro e W1 ⟨rfl, b1⟩
  have B1 := bnext B0 b1
  have X1 := X0.below b1 (by omega)
  have Y1 := Y0.below b1 (by omega)
  have z1 : w.heap.size + 1 < W1.heap.size := by have := b1.size; omega
  obtain ⟨x0, x1, x2⟩ := id X1
  go_wp2_with fail
  clear x0 x1 x2
  obtain ⟨V, hV⟩ : ∃ V, V = W1.drew := ⟨_, rfl⟩
  have BV : Below W1.heap.size W1 V := by rw [hV]; exact bdrew (Below.refl _ _)
  have X2 := X1.below BV (by omega)
  have Y2 := Y1.below BV (by omega)
  have B2 := bnext B1 BV
  have zV : V.heap.size = W1.heap.size := by rw [hV]; rfl
  have r1V := r1.below B2 (Nat.le_refl _)
  have E1 := Lib.hid (fun t => own_empty V t)
  have B3 := fun o => balloc (Below.refl V.heap.size V) o
  have q5 : 0 + n ≤ 70368744177664 / 8 := by omega
  have q6 : ∀ o, V.heap.size ≤ (V.alloc o).heap.size := fun o => by simp
  have zx : w.heap.size < V.heap.size := by omega
  have zy : w.heap.size + 1 < V.heap.size := by omega
  have q9 : m ≤ 70368744177664 := by omega
  subst hV
  go_region_held3 (fun w' => w'.cell? ⟨w.heap.size, 0, none⟩ = some (.slice A n c) ∧ w'.cell? ⟨w.heap.size, 1, none⟩ = some (.slice B m d) ∧ w'.cell? ⟨w.heap.size, 2, none⟩ = some (.int .i64 k))
    (first | exact three X2 | exact three (X2.below (B3 _) zx) | exact three X4 | exact three X5 | exact three (((X5.set_ _ _ (Nat.ne_of_gt (Nat.lt_succ_self _))).set_ _ _ (Nat.ne_of_gt (Nat.lt_succ_self _))).set_ _ _ (Nat.ne_of_gt (Nat.lt_succ_self _))) | fail)
    (first
      | (go_at_call 32; refine (I_clone B m d h W4 (r2.below B4 (Nat.le_refl _)) q9).mono ?_; rintro e W5 ⟨A5, n5, c5, rfl, o5, b5⟩; have X5 := X4.below b5 (Nat.lt_of_lt_of_le zx z4); have Y5 := Y4.below b5 (Nat.lt_of_lt_of_le zy z4); have B5 := bnext B4 b5; obtain ⟨⟨y0, y1, y2⟩, fr5⟩ := Y5; have f0 := fr5 0; have f1 := fr5 1; have f2 := fr5 2)
      | (refine step_append_ints _ rfl _ _ rfl W1.drew.heap.size _ _ _ [] (by simp [Act.eval]) (E1.out _) _ _ _ l (by simp [Act.eval]) (r1V.alloc _) q5 (q6 _) ?_; intro A4 c4 W4 HO4 hb4; have X4 := (X2.below (B3 _) zx).below hb4 zx; have Y4 := (Y2.below (B3 _) zy).below hb4 zy; have bV4 := (B3 _).trans hb4; have B4 := bnext B2 bV4; have z4 := bV4.size))
  have ho4 := HO4.out
  rw [Nat.zero_add, List.nil_append] at ho4
  have o4 := (Ow.of_own ho4).below b5 (Nat.le_refl _)
  have g1 := z4
  have g2 := b5.size
  go_wp2_with fail
  refine bodyPost_ret (v := .agg #[.slice A4 n c4, .slice A5 n5 c5, .int .i64 k]) (by simp [results, Try.results13, go_sem, y0, y1, y2]) rfl ⟨A4, n, c4, A5, n5, c5, rfl, ⟨?_, ?_⟩, ?_⟩
  · exact (((o4.set_ (by show w.heap.size + 1 < _; exact zy) _).set_ (by show w.heap.size + 1 < _; exact zy) _).set_ (by show w.heap.size + 1 < _; exact zy) _).less (by omega) |>.more (by simp; omega)
  · exact (((o5.set_ (by show w.heap.size + 1 < _; omega) _).set_ (by show w.heap.size + 1 < _; omega) _).set_ (by show w.heap.size + 1 < _; omega) _).less (by omega) |>.more (by simp)
  · repeat (first | exact B5 | refine Below.setCell ?_ (by simp <;> omega) _)

set_option maxHeartbeats 1000000 in
theorem I_HashAdd_feed (A B : Option Addr) (n c m d : Nat) (l : List Int) (h : List UInt8) (k : Int) (C : Option Addr) (p q : Nat) (b : List UInt8) (w : World) (r1 : Rd w A n c (iv l)) (r2 : Rd w B m d (bv h)) (r3 : Rd w C p q (bv b)) (hm1 : m ≤ 4000000) (hp1 : p ≤ 4000000) (hn1 : n ≤ 8796093022208)
    (hok : hOk l h k = true) (hfit : ¬ 1048576 - k < (p : Int)) :
    Calls Try.prog 13 #[hashV A n c B m d k, .slice C p q] w fun e w' => OutH w (allL l (h ++ b) ((h ++ b).length / 64)) ((h ++ b).drop (64 * ((h ++ b).length / 64))) (k + p) e w' := by
  have hb1 := r1.bnd
  have hb2 := r2.bnd
  have hb3 := r3.bnd
  obtain ⟨W00, hW00⟩ : ∃ V, V = w.alloc (.cells #[.slice A n c, .slice B m d, .int .i64 k] 31) := ⟨_, rfl⟩
  obtain ⟨W0, hW0⟩ : ∃ V, V = W00.alloc (.cells #[.slice none 0 0, .slice none 0 0, .int .i64 0] 31) := ⟨_, rfl⟩
  have B00 : Below w.heap.size w W00 := by rw [hW00]; exact balloc (Below.refl _ _) _
  have z00 : W00.heap.size = w.heap.size + 1 := by rw [hW00]; simp
  have B0 : Below w.heap.size w W0 := by rw [hW0]; exact balloc B00 _
  have z0 : W0.heap.size = w.heap.size + 1 + 1 := by rw [hW0]; simp [z00]
  have X0 : Bx W0 w.heap.size (.slice A n c) (.slice B m d) (.int .i64 k) := by
    have : Bx W00 w.heap.size (.slice A n c) (.slice B m d) (.int .i64 k) := by rw [hW00]; exact Bx.new _ _ _ _ _
    exact this.below (X := W00.heap.size) (by rw [hW0]; exact balloc (Below.refl _ _) _) (by omega)
  have Y0 : Wx W0 (w.heap.size + 1) (.slice none 0 0) (.slice none 0 0) (.int .i64 0) := by rw [hW0, ← z00]; exact Wx.new _ _ _ _ _
  have HW0 : Hid (W0 = (w.alloc (.cells #[.slice A n c, .slice B m d, .int .i64 k] 31)).alloc (.cells #[.slice none 0 0, .slice none 0 0, .int .i64 0] 31)) := by rw [← hW00]; exact hW0
  clear hW0 hW00
  have CO := Lib.hid ((I_HashOk A B n c m d l h k W0 (r1.below B0 (Nat.le_refl _)) (r2.below B0 (Nat.le_refl _))).mono fun e w' h' => (⟨by rw [h'.1, hok], h'.2⟩ : e = .returned (.bool true) ∧ Below W0.heap.size W0 w'))
  have hkr := ((hOk_iff l h k).1 hok).2.1
  have wk : IntKind.i64.wrap (1048576 - k) = 1048576 - k := by rw [IntKind.wrap_i64]; omega
  clear hok
  go_enter Try.func13, Try.ntmps13
  go_wp2_with fail
  rw [← HW0.out]
  refine CO.out.mono ?_
  rintro e W1 ⟨rfl, b1⟩
  have B1 := bnext B0 b1
  have X1 := X0.below b1 (by omega)
  have Y1 := Y0.below b1 (by omega)
  have z1 : w.heap.size + 1 < W1.heap.size := by have := b1.size; omega
  obtain ⟨x0, x1, x2⟩ := id X1
  go_wp2_with fail
  clear x0 x1 x2
  obtain ⟨V, hV⟩ : ∃ V, V = W1.drew := ⟨_, rfl⟩
  have BV : Below W1.heap.size W1 V := by rw [hV]; exact bdrew (Below.refl _ _)
  have X2 := X1.below BV (by omega)
  have Y2 := Y1.below BV (by omega)
  have B2 := bnext B1 BV
  have zV : V.heap.size = W1.heap.size := by rw [hV]; rfl
  have r2V := r2.below B2 (Nat.le_refl _)
  have r3V := r3.below B2 (Nat.le_refl _)
  have B3 := fun o => balloc (Below.refl V.heap.size V) o
  have zx : w.heap.size < V.heap.size := by omega
  have zy : w.heap.size + 1 < V.heap.size := by omega
  have hjl : (h ++ b).length ≤ 70368744177664 := by have h1 := r2.len; have h2 := r3.len; rw [bv_len] at h1 h2; rw [List.length_append]; omega
  have hk2 : 0 ≤ k + (p : Int) ∧ k + (p : Int) ≤ 1048576 := by omega
  subst hV
  go_region_held3 (fun w' => w'.cell? ⟨w.heap.size, 0, none⟩ = some (.slice A n c) ∧ w'.cell? ⟨w.heap.size, 1, none⟩ = some (.slice B m d) ∧ w'.cell? ⟨w.heap.size, 2, none⟩ = some (.int .i64 k))
    (first | exact three X2 | exact three (X2.below (B3 _) zx) | exact three X3 | exact three X4 | fail)
    (first
      | (go_at_call 34; refine (I_joined2 B C m d p q h b W1.drew _ r2V r3V hm1 hp1).mono ?_; rintro e W3 ⟨A3, n3, c3, rfl, o3, b3⟩; have X3 := X2.below b3 zx; have Y3 := Y2.below b3 zy; have B3' := bnext B2 b3; have z3 := b3.size)
      | (go_at_call 33; refine (I_compressAll A A3 n c n3 c3 l (h ++ b) W3 (r1.below B3' (Nat.le_refl _)) o3.rd hn1 (rd_le o3.rd hjl)).mono ?_; rintro e W4 ⟨A4, n4, c4, A5, n5, c5, rfl, q1, q2, b4⟩; have X4 := X3.below b4 (Nat.lt_of_lt_of_le zx z3); have Y4 := Y3.below b4 (Nat.lt_of_lt_of_le zy z3); have B4 := bnext B3' b4; have z4 := b4.size))
  have H3 : (h ++ b).length = n3 := by have h3 := o3.rd.len; rw [bv_len] at h3; exact h3
  rw [← H3] at q1 q2
  have zz := Nat.le_trans z3 z4
  have hn4 : n4 ≤ 8796093022208 := by have h1 := q1.len; rw [iv_len, allL_len] at h1; have h2 := r1.len; rw [iv_len] at h2; omega
  have hn5 : n5 ≤ 70368744177664 := by have h1 := q2.len; rw [bv_len, List.length_drop] at h1; omega
  generalize hLL : allL l (h ++ b) ((h ++ b).length / 64) = LL at *
  generalize hHH : (h ++ b).drop (64 * ((h ++ b).length / 64)) = HH at *
  have HLL := Lib.hid hLL
  have HHH := Lib.hid hHH
  clear hLL hHH H3
  go_wp2_with fail
  have zx4 : w.heap.size < W4.heap.size := by omega
  have zy4 : w.heap.size + 1 < W4.heap.size := by omega
  clear X3 Y3 X2 Y2 b3 b4 o3 B3
  obtain ⟨V, hV⟩ : ∃ V, V = W4.drew := ⟨_, rfl⟩
  have BV4 : Below W4.heap.size W4 V := by rw [hV]; exact bdrew (Below.refl _ _)
  have X2 := X4.below BV4 zx4
  have Y2 := Y4.below BV4 zy4
  have B6 := bnext B4 BV4
  have zV4 : V.heap.size = W4.heap.size := by rw [hV]; rfl
  have q1V := q1.below BV4 (Nat.le_refl _)
  have E1 := Lib.hid (fun t => own_empty V t)
  have B3 := fun o => balloc (Below.refl V.heap.size V) o
  have q5 : 0 + n4 ≤ 70368744177664 / 8 := by omega
  have q6 : ∀ o, V.heap.size ≤ (V.alloc o).heap.size := fun o => by simp
  have zx : w.heap.size < V.heap.size := by omega
  have zy : w.heap.size + 1 < V.heap.size := by omega
  have q2V := q2.below BV4 (Nat.le_refl _)
  have wkp : IntKind.i64.wrap (k + (p : Int)) = k + (p : Int) := by rw [IntKind.wrap_i64]; omega
  clear X4 Y4
  subst hV
  go_region_held3 (fun w' => w'.cell? ⟨w.heap.size, 0, none⟩ = some (.slice A n c) ∧ w'.cell? ⟨w.heap.size, 1, none⟩ = some (.slice B m d) ∧ w'.cell? ⟨w.heap.size, 2, none⟩ = some (.int .i64 k))
    (first | exact three X2 | exact three (X2.below (B3 _) zx) | exact three X4 | exact three X5 | exact three (((X5.set_ _ _ (Nat.ne_of_gt (Nat.lt_succ_self _))).set_ _ _ (Nat.ne_of_gt (Nat.lt_succ_self _))).set_ _ _ (Nat.ne_of_gt (Nat.lt_succ_self _))) | fail)
    (first
      | (go_at_call 32; refine (I_clone A5 n5 c5 HH W6 (q2V.below b6 (Nat.le_refl _)) hn5).mono ?_; rintro e W7 ⟨A7, n7, c7, rfl, o7, b7⟩; have X5 := X4.below b7 (Nat.lt_of_lt_of_le zx z6); have Y5 := Y4.below b7 (Nat.lt_of_lt_of_le zy z6); have B7 := bnext B8 b7; obtain ⟨⟨y0, y1, y2⟩, fr5⟩ := Y5; have f0 := fr5 0; have f1 := fr5 1; have f2 := fr5 2)
      | (refine step_append_ints _ rfl _ _ rfl W4.drew.heap.size _ _ _ [] (by simp [Act.eval]) (E1.out _) _ _ _ LL (by simp [Act.eval]) (q1V.alloc _) q5 (q6 _) ?_; intro A6 c6 W6 HO6 hb6; have X4 := (X2.below (B3 _) zx).below hb6 zx; have Y4 := (Y2.below (B3 _) zy).below hb6 zy; have b6 := (B3 _).trans hb6; have B8 := bnext B6 b6; have z6 := b6.size))
  have ho6 := HO6.out
  rw [Nat.zero_add, List.nil_append] at ho6
  have o6 := (Ow.of_own ho6).below b7 (Nat.le_refl _)
  have g1 := z6
  have g2 := b7.size
  go_wp2_with fail
  have e1 := HLL.out
  have e2 := HHH.out
  subst e1
  subst e2
  refine bodyPost_ret (v := .agg #[.slice A6 n4 c6, .slice A7 n7 c7, .int .i64 (k + p)]) (by simp [results, Try.results13, go_sem, y0, y1, y2]) rfl ⟨A6, n4, c6, A7, n7, c7, rfl, ⟨?_, ?_⟩, ?_⟩
  · exact (((o6.set_ (by show w.heap.size + 1 < _; exact zy) _).set_ (by show w.heap.size + 1 < _; exact zy) _).set_ (by show w.heap.size + 1 < _; exact zy) _).less (by omega) |>.more (by simp; omega)
  · exact (((o7.set_ (by show w.heap.size + 1 < _; omega) _).set_ (by show w.heap.size + 1 < _; omega) _).set_ (by show w.heap.size + 1 < _; omega) _).less (by omega) |>.more (by simp)
  · repeat (first | exact B7 | refine Below.setCell ?_ (by simp <;> omega) _)

end Go.Proofs.Ytnngiampfdjlfaa
