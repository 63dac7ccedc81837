/- Contract of the reference's HashEnd: for every Hash. -/
import Derived.Test.YtfhpigfoeejhlaaHashEnd
import Derived.Test.YtfhpigfoeejhlaaStep
namespace Go.Proofs.Ytfhpigfoeejhlaa
open Go.ChangeShapes Go.WideShapes Go.ChangeAt Go.RowKit
set_option linter.unusedVariables false

theorem tri {w : World} {g : Nat} {u v x : Value} (a : Bx w g u v x) : w.cell? ⟨g, 0, none⟩ = some u ∧ w.cell? ⟨g, 1, none⟩ = some v ∧ w.cell? ⟨g, 2, none⟩ = some x := ⟨a.c0, a.c1, a.c2⟩
theorem sum_le {a b : Nat} (h : a ≤ 4000000) (k : b ≤ 4000000) : a + b ≤ 70368744177664 := by omega

set_option maxHeartbeats 1000000 in
theorem S_HashEnd_yes (A B : Option Addr) (n c m d : Nat) (l : List Int) (h : List UInt8) (k : Nat) (w : World) (r1 : Rd w A n c (iv l)) (r2 : Rd w B m d (bv h)) (hm1 : m ≤ 4000000) (hok : hOk l h (k : Int) = true) :
    Calls Try.prog 47 #[hashV A n c B m d (k : Int)] w fun e w' => Out 5 w (bv (hashEnd l h (k : Int))) e w' := by
  have hm : h.length = m := by have := r2.len; rwa [bv_len] at this
  have hn : l.length = n := by have := r1.len; rwa [iv_len] at this
  have hk3 := (hOk_iff l h (k : Int)).1 hok
  have h8 : n = 8 := by have := ((wordsB_iff l).1 hk3.1).2; omega
  subst h8
  have hb1 := r1.bnd
  have hb2 := r2.bnd
  obtain ⟨W0, hW0⟩ : ∃ V, V = w.alloc (.cells #[.slice A 8 c, .slice B m d, .int .i64 (k : Int)] 28) := ⟨_, rfl⟩
  have B0 : Below w.heap.size w W0 := by rw [hW0]; exact balloc (Below.refl _ _) _
  have z0 : w.heap.size < W0.heap.size := by rw [hW0]; simp
  have X0 : Bx W0 w.heap.size (.slice A 8 c) (.slice B m d) (.int .i64 (k : Int)) := by rw [hW0]; exact Bx.new _ _ _ _ _
  have HW0 := Lib.hid hW0
  clear hW0
  have CO := Lib.hid (S_HashOk A B 8 c m d l h (k : Int) W0 (r1.below B0 (Nat.le_refl _)) (r2.below B0 (Nat.le_refl _)))
  have HE := Lib.hid (show hashEnd l h (k : Int) = outR (allL l (h ++ padL (k : Int)) ((h ++ padL (k : Int)).length / 64)) 8 by rw [hashEnd, if_pos hok])
  have CO := Lib.hid (CO.out.mono fun e w' h' => (⟨by rw [h'.1, hok], h'.2⟩ : e = .returned (.bool true) ∧ Below W0.heap.size W0 w'))
  have HM := Lib.hid (show ∃ M, (h ++ padL (k : Int)).length = 64 * M by
    have h1 := padL_mod k (by have := hk3.2.1; omega)
    have h2 := hk3.2.2
    refine ⟨(h ++ padL (k : Int)).length / 64, ?_⟩
    rw [List.length_append]
    omega)
  have hpl : (padL (k : Int)).length ≤ 4000000 := by have := padL_len (k : Int); omega
  clear hm hok hk3
  go_enter Try.func47, Try.ntmps47
  go_wp2_with fail
  rw [← HW0.out]
  refine CO.out.mono ?_
  rintro e W1 ⟨rfl, b1⟩
  have B1 := bnext B0 b1
  have X1 := X0.below b1 z0
  have z1 : w.heap.size < W1.heap.size := by have := b1.size; omega
  go_wp2_with fail
  clear X0 b1 z0 B0
  obtain ⟨V, hV⟩ : ∃ V, V = W1.drew := ⟨_, rfl⟩
  have BV : Below W1.heap.size W1 V := by rw [hV]; exact bdrew (Below.refl _ _)
  have X2 := X1.below BV z1
  have B2 := bnext B1 BV
  have zV : V.heap.size = W1.heap.size := by rw [hV]; rfl
  have r2V := r2.below B2 (Nat.le_refl _)
  have E1 := Lib.hid (fun t => own_empty V t)
  have B3 := fun o => balloc (Below.refl V.heap.size V) o
  have q5 : 0 + m ≤ 70368744177664 := by omega
  have q6 : ∀ o, V.heap.size ≤ (V.alloc o).heap.size := fun o => by simp
  have zx : w.heap.size < V.heap.size := by omega
  subst hV
  go_region_held3 (fun w' => w'.cell? ⟨w.heap.size, 0, none⟩ = some (.slice A 8 c) ∧ w'.cell? ⟨w.heap.size, 1, none⟩ = some (.slice B m d) ∧ w'.cell? ⟨w.heap.size, 2, none⟩ = some (.int .i64 (k : Int)))
    (first | exact tri X2 | exact tri (X2.below (B3 _) zx) | exact tri X4 | exact tri X5 | exact tri (X5.below (balloc (Below.refl _ _) _) zx5) | exact tri X6 | fail)
    (first
      | (go_at_call 81; refine (S_Pad (k : Int) W4).mono ?_; rintro e W5 ⟨A5, n5, c5, rfl, o5, b5⟩; have X5 := X4.below b5 (Nat.lt_of_lt_of_le zx z4); have HO45 := Lib.hid ((Ow.of_own HO4.out).below b5 (Nat.le_refl _)).own; have B5 := bnext B4 b5; have hn5 := rd_le o5.rd hpl; have r5 := o5.rd; have q7 := sum_le hm1 hn5; have z5 := Nat.le_trans z4 b5.size; have zx5 := Nat.lt_of_lt_of_le zx z5)
      | (refine step_append_bytes _ rfl _ _ rfl W1.drew.heap.size _ _ _ h (by simp [Act.eval]) HO45 _ _ _ (padL (k : Int)) (by simp [Act.eval]) r5 q7 z5 ?_; intro A6 c6 W6 HO6 hb6; have X6 := X5.below hb6 zx)
      | (refine step_append_bytes _ rfl _ _ rfl W1.drew.heap.size _ _ _ [] (by simp [Act.eval]) (E1.out _) _ _ _ h (by simp [Act.eval]) (r2V.alloc _) q5 (q6 _) ?_; intro A4 c4 W4 HO4 hb4; rw [Nat.zero_add, List.nil_append] at HO4; have X4 := (X2.below (B3 _) zx).below hb4 zx; have bV4 := (B3 _).trans hb4; have B4 := bnext B2 bV4; have z4 := bV4.size))
  have hlen6 : (h ++ padL (k : Int)).length = m + n5 := by have := (own_rd HO6.out).len; rwa [bv_len] at this
  have HRA := Lib.hid (Ow.of_own HO6.out)
  have B6 : Below w.heap.size w W6 := B5.trans (hb6.mono (by omega))
  have HE7 := HE.out
  obtain ⟨M, hM⟩ := HM.out
  rw [hM, Nat.mul_div_cancel_left M (by omega)] at HE7
  have HSF := Lib.hid HE7
  have HM1 := Lib.hid (hlen6.symm.trans hM)
  have hTb : m + n5 ≤ 8000000 := by omega
  generalize hall : h ++ padL (k : Int) = all at *
  clear HE7 hM hlen6 HE HM hall CO X1 X2 X4 X5 HO45 HO4 hb4 b5 o5 r5 q7 z5 bV4 z4 E1 B3 q5 q6 r2V HO6 hb6 B4 B5 zx5 zV BV z1 B1 B2 zx hpl hn5
  generalize m + n5 = T at *
  have zx6 : w.heap.size < W6.heap.size := World.block_lt_of_cell? W6 _ X6.c0
  have x0 := (World.cell?_alloc_lt W6 (.cells #[] 3) ⟨w.heap.size, 0, none⟩ zx6).trans X6.c0
  have r1W := (r1.below B6 (Nat.le_refl _)).alloc (.cells #[] 3)
  have HE6 := Lib.hid (own_empty W6 3)
  have qa : 0 + 8 ≤ 70368744177664 / 8 := by omega
  have qb : W6.heap.size ≤ (W6.alloc (.cells #[] 3)).heap.size := by simp
  go_wp2_with (at_builtin; refine append_ints _ rfl _ _ rfl W6.heap.size _ _ _ [] rfl HE6 _ _ _ l rfl r1W qa qb ?_; intro A7 c7 W7 HO7 hb7)
  have ho7 := HO7.out
  rw [List.nil_append] at ho7
  have b7 := (balloc (Below.refl W6.heap.size W6) (.cells #[] 3)).trans hb7
  have B7 := bnext B6 b7
  have HR4 := Lib.hid ((HRA.out.rd).below b7 (Nat.le_refl _))
  have h4 := own_rd ho7
  have hl8 : l.length = 8 := by have := r1.len; rwa [iv_len] at this
  have HL8 := Lib.hid hl8
  clear x0 X6 HRA HO7 hb7 b7 r1W HE6 qa qb ho7 hl8
  go_loopw [4, 5] (fun v i wr => ∃ (j p n' c' : Nat) (A' : Option Addr), v = .slice A' n' c' ∧ i = .int .i64 p ∧ Hid (p = 64 * j) ∧ p ≤ T ∧
      Hid (Rd wr A' n' c' (iv (allL l all j))) ∧ Below W7.heap.size W7 wr)
    (fun _ i _ => T - (intOf i).toNat)
  case atStart => exact ⟨0, 0, 8, c7, A7, rfl, rfl, rfl, by omega, h4, Below.refl _ _⟩
  case round =>
    obtain ⟨j, p, n', c', A', rfl, rfl, HJ, hp, HA, hb⟩ := hrel
    have hr4 := HR4.out.below hb (Nat.le_refl _)
    by_cases hlt : p < T
    · have hlt' : (p : Int) < (T : Int) := by omega
      have hp64 : p + 64 ≤ T := by have h1 := HJ.out; have h2 := HM1.out; omega
      have hbT := hr4.bnd
      have hn : n' ≤ 8796093022208 := by have h1 := HA.out.len; rw [iv_len, allL_len, HL8.out] at h1; omega
      have hD := hr4.cut p 64 hp64
      rw [if_neg (by omega), bv_cut] at hD
      have C := Lib.hid (S_Compress _ _ _ _ _ _ (allL l all j) ((all.drop p).take 64) wr HA.out hD hn)
      clear hr4 hD
      go_wp2_with fail
      refine C.out.mono ?_
      rintro e W5 ⟨A5, n5, c5, rfl, o5, b5⟩
      have h5 := o5.rd
      rw [HJ.out] at h5
      have B5 := bnext hb b5
      go_wp2_with fail
      go_roundw
      case rel => exact ⟨j + 1, p + 64, n5, c5, A5, rfl, by go_num, by have := HJ.out; show _ = _; omega, by omega, h5, B5⟩
      case measure => simp [intOf]; omega
    · have hlt' : ¬ (p : Int) < (T : Int) := by omega
      have hjm : j = M := by have h1 := HJ.out; have h2 := HM1.out; omega
      subst hjm
      have hn : n' = 8 := by have h1 := HA.out.len; rw [iv_len, allL_len, HL8.out] at h1; omega
      have C := Lib.hid (S_Out A' n' c' (allL l all j) wr HA.out hn)
      clear hn
      go_wp2_with fail
      refine C.out.mono ?_
      rintro e W5 ⟨A5, n5, c5, rfl, o5, b5⟩
      have B5 := bnext (bnext B7 hb) b5
      go_wp2_with fail
      exact bodyPost_ret (v := .slice A5 n5 c5) (by simp [results, Try.results47, go_sem]) rfl (by rw [HSF.out]; exact ⟨_, _, _, rfl, o5.less (by have h1 := B7.size; have h2 := hb.size; omega), B5⟩)

theorem S_HashEnd (A B : Option Addr) (n c m d : Nat) (l : List Int) (h : List UInt8) (k : Int) (w : World) (r1 : Rd w A n c (iv l)) (r2 : Rd w B m d (bv h)) (hm1 : m ≤ 4000000) :
    Calls Try.prog 47 #[hashV A n c B m d k] w fun e w' => Out 5 w (bv (hashEnd l h k)) e w' := by
  cases hok : hOk l h k with
  | true =>
    have hk := ((hOk_iff l h k).1 hok).2.1
    obtain ⟨q, rfl⟩ := Int.eq_ofNat_of_zero_le hk.1
    exact S_HashEnd_yes A B n c m d l h q w r1 r2 hm1 hok
  | false =>
    have hb1 := r1.bnd
    have hb2 := r2.bnd
    obtain ⟨W0, hW0⟩ : ∃ V, V = w.alloc (.cells #[.slice A n c, .slice B m d, .int .i64 k] 28) := ⟨_, rfl⟩
    have B0 : Below w.heap.size w W0 := by rw [hW0]; exact balloc (Below.refl _ _) _
    have HW0 := Lib.hid hW0
    clear hW0
    have CO := Lib.hid ((S_HashOk A B n c m d l h k W0 (r1.below B0 (Nat.le_refl _)) (r2.below B0 (Nat.le_refl _))).mono fun e w' h' => (⟨by rw [h'.1, hok], h'.2⟩ : e = .returned (.bool false) ∧ Below W0.heap.size W0 w'))
    have HE := Lib.hid (show hashEnd l h k = [] by rw [hashEnd, if_neg (by simp [hok])])
    clear hok
    go_enter Try.func47, Try.ntmps47
    go_wp2_with fail
    rw [← HW0.out]
    refine CO.out.mono ?_
    rintro e W1 ⟨rfl, b1⟩
    have B1 := bnext B0 b1
    go_wp2_with fail
    exact bodyPost_ret (v := .slice (some ⟨W1.heap.size, 0, none⟩) 0 0) (by simp [results, Try.results47, go_sem]) rfl (by rw [HE.out]; exact ⟨_, _, _, rfl, (Ow.of_own (own_empty W1 _)).less B1.size, balloc B1 _⟩)

end Go.Proofs.Ytfhpigfoeejhlaa
