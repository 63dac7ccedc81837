/- Contract of the program's HashEnd: for every Hash. -/
import Derived.Test.YtnngiampfdjlfaaHashOk
import Derived.Test.YtnngiampfdjlfaaJoin
import Derived.Test.YtnngiampfdjlfaaCompAll
import Derived.Deep.RegionHeld3
namespace Go.Proofs.Ytnngiampfdjlfaa
open Go.ChangeShapes Go.WideShapes Go.ChangeAt Go.RowKit
set_option linter.unusedVariables false

/-- HashEnd of the program, on every Hash. -/
def hashEnd (l : List Int) (h : List UInt8) (k : Int) : List UInt8 := if hOk l h k = true then outR (allL l (h ++ padL k) ((h ++ padL k).length / 64)) 8 else []

theorem rd_le {w : World} {A : Option Addr} {n c x : Nat} {l : List UInt8} (h : Rd w A n c (bv l)) (hx : l.length ≤ x) : n ≤ x := by
  have := h.len
  rw [bv_len] at this
  omega

set_option maxHeartbeats 1000000 in
theorem I_HashEnd (A B : Option Addr) (n c m d : Nat) (l : List Int) (h : List UInt8) (k : Int) (w : World) (r1 : Rd w A n c (iv l)) (r2 : Rd w B m d (bv h)) (hm1 : m ≤ 4000000) :
    Calls Try.prog 26 #[hashV A n c B m d k] w fun e w' => Out 5 w (bv (hashEnd l h k)) e w' := by
  have hm : h.length = m := by have := r2.len; rwa [bv_len] at this
  have hn : l.length = n := by have := r1.len; rwa [iv_len] at this
  have hb1 := r1.bnd
  have hb2 := r2.bnd
  obtain ⟨W0, hW0⟩ : ∃ V, V = w.alloc (.cells #[.slice A n c, .slice B m d, .int .i64 k] 31) := ⟨_, rfl⟩
  have B0 : Below w.heap.size w W0 := by rw [hW0]; exact balloc (Below.refl _ _) _
  have z0 : w.heap.size < W0.heap.size := by rw [hW0]; simp
  have X0 : Bx W0 w.heap.size (.slice A n c) (.slice B m d) (.int .i64 k) := by rw [hW0]; exact Bx.new _ _ _ _ _
  have HW0 := Lib.hid hW0
  clear hW0
  have CO := Lib.hid (I_HashOk A B n c m d l h k W0 (r1.below B0 (Nat.le_refl _)) (r2.below B0 (Nat.le_refl _)))
  cases hok : hOk l h k with
  | false =>
    have HE := Lib.hid (show hashEnd l h k = [] by rw [hashEnd, if_neg (by simp [hok])])
    have CO := Lib.hid (CO.out.mono fun e w' h' => (⟨by rw [h'.1, hok], h'.2⟩ : e = .returned (.bool false) ∧ Below W0.heap.size W0 w'))
    clear hm hn hok
    go_enter Try.func26, Try.ntmps26
    go_wp2_with fail
    rw [← HW0.out]
    refine CO.out.mono ?_
    rintro e W1 ⟨rfl, b1⟩
    go_wp2_with fail
    exact bodyPost_ret (v := .slice none 0 0) (by simp [results, Try.results26, go_sem]) rfl (by rw [HE.out]; exact ⟨_, _, _, rfl, Ow.of_own (World.ownsRow_nil _ _ _ _), bnext B0 b1⟩)
  | true =>
    have HE := Lib.hid (show hashEnd l h k = outR (allL l (h ++ padL k) ((h ++ padL k).length / 64)) 8 by rw [hashEnd, if_pos hok])
    have CO := Lib.hid (CO.out.mono fun e w' h' => (⟨by rw [h'.1, hok], h'.2⟩ : e = .returned (.bool true) ∧ Below W0.heap.size W0 w'))
    have H8 := Lib.hid ((wordsB_iff l).1 ((hOk_iff l h k).1 hok).1).2
    clear hm hok
    go_enter Try.func26, Try.ntmps26
    go_wp2_with fail
    rw [← HW0.out]
    refine CO.out.mono ?_
    rintro e W1 ⟨rfl, b1⟩
    have B1 := bnext B0 b1
    have X1 := X0.below b1 z0
    obtain ⟨x0, x1, x2⟩ := X1
    have z1 : w.heap.size < W1.heap.size := by have := b1.size; omega
    go_wp2_with fail
    have hpl : (padL k).length ≤ 4000000 := by have := padL_len k; omega
    have hjl : (h ++ padL k).length ≤ 70368744177664 := by have h1 := padL_len k; have h2 := r2.len; rw [bv_len] at h2; rw [List.length_append]; omega
    have hN : n ≤ 8796093022208 := by have := H8.out; omega
    clear hn
    go_region_held3 (fun w' => w'.cell? ⟨w.heap.size, 0, none⟩ = some (.slice A n c) ∧ w'.cell? ⟨w.heap.size, 1, none⟩ = some (.slice B m d) ∧ w'.cell? ⟨w.heap.size, 2, none⟩ = some (.int .i64 k))
      (first | exact ⟨x0, x1, x2⟩ | exact ⟨y0, y1, y2⟩ | exact ⟨t0 _, t1 _, t2 _⟩ | exact ⟨v0, v1, v2⟩ | exact ⟨u0, u1, u2⟩)
      (first
        | (go_at_call 49; refine (I_Pad k _).mono ?_; rintro e W2 ⟨A2, n2, c2, rfl, o2, b2⟩; have y0 := (b2.cell (p := ⟨w.heap.size, 0, none⟩) z1).trans x0; have y1 := (b2.cell (p := ⟨w.heap.size, 1, none⟩) z1).trans x1; have y2 := (b2.cell (p := ⟨w.heap.size, 2, none⟩) z1).trans x2; have B2 := bnext (bdrew B1) b2; have z2 := Nat.lt_of_lt_of_le z1 b2.size; have t0 := fun o => (World.cell?_alloc_lt W2 o ⟨w.heap.size, 0, none⟩ z2).trans y0; have t1 := fun o => (World.cell?_alloc_lt W2 o ⟨w.heap.size, 1, none⟩ z2).trans y1; have t2 := fun o => (World.cell?_alloc_lt W2 o ⟨w.heap.size, 2, none⟩ z2).trans y2)
        | (go_at_call 34; refine (I_joined2 B A2 m d n2 c2 h (padL k) W2 _ (r2.below B2 (Nat.le_refl _)) o2.rd hm1 (rd_le o2.rd hpl)).mono ?_; rintro e W3 ⟨A3, n3, c3, rfl, o3, b3⟩; have v0 := (b3.cell (p := ⟨w.heap.size, 0, none⟩) z2).trans y0; have v1 := (b3.cell (p := ⟨w.heap.size, 1, none⟩) z2).trans y1; have v2 := (b3.cell (p := ⟨w.heap.size, 2, none⟩) z2).trans y2; have B3 := bnext B2 b3; have z3 := Nat.lt_of_lt_of_le z2 b3.size)
        | (go_at_call 33; refine (I_compressAll A A3 n c n3 c3 l (h ++ padL k) W3 (r1.below B3 (Nat.le_refl _)) o3.rd hN (rd_le o3.rd hjl)).mono ?_; rintro e W4 ⟨A4, n4, c4, A5, n5, c5, rfl, q1, q2, b4⟩; have u0 := (b4.cell (p := ⟨w.heap.size, 0, none⟩) z3).trans v0; have u1 := (b4.cell (p := ⟨w.heap.size, 1, none⟩) z3).trans v1; have u2 := (b4.cell (p := ⟨w.heap.size, 2, none⟩) z3).trans v2; have B4 := bnext B3 b4))
    have H3 : Hid ((h ++ padL k).length = n3) := by have h3 := o3.rd.len; rw [bv_len] at h3; exact h3
    have C4 := Lib.hid (I_Out A4 n4 c4 _ W4 q1 (by have h1 := q1.len; rw [iv_len, allL_len, H8.out] at h1; exact h1.symm))
    clear q1 q2
    go_wp2_with fail
    refine C4.out.mono ?_
    rintro e W5 ⟨A6, n6, c6, rfl, o6, b6⟩
    have B5 := bnext B4 b6
    go_wp2_with fail
    exact bodyPost_ret (v := .slice A6 n6 c6) (by simp [results, Try.results26, go_sem]) rfl (by rw [HE.out, H3.out]; exact ⟨_, _, _, rfl, o6.less B4.size, B5⟩)

end Go.Proofs.Ytnngiampfdjlfaa
