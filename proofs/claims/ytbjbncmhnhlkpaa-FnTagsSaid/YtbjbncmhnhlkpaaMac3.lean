/- Contract of the reference's Hmac. -/
import Derived.Test.YtbjbncmhnhlkpaaMac1
import Derived.Test.YtbjbncmhnhlkpaaMac2
namespace Go.Proofs.Ytbjbncmhnhlkpaa
open Go.ChangeShapes Go.WideShapes Go.ChangeAt Go.RowKit
set_option linter.unusedVariables false

theorem xor_ne : ∀ y : UInt8, y ^^^ 54 ≠ y ^^^ 92 := by
  intro y h
  have h2 : y ^^^ (y ^^^ 54) = y ^^^ (y ^^^ 92) := by rw [h]
  rw [← UInt8.xor_assoc, ← UInt8.xor_assoc, UInt8.xor_self, UInt8.zero_xor, UInt8.zero_xor] at h2
  exact absurd h2 (by decide)
/-- The heads of the two masks differ. -/
theorem mask_ne (l : List UInt8) (a b : Nat) (ha : 0 < a) (hb : 0 < b) (hl : 0 < l.length) : ∃ u v, (bv (maskL (l.take a) 54))[0]? = some u ∧ (bv (maskL (l.take b) 92))[0]? = some v ∧ u ≠ v := by
  obtain ⟨y, t, rfl⟩ : ∃ y t, l = y :: t := by
    cases l with
    | nil => simp at hl
    | cons y t => exact ⟨y, t, rfl⟩
  obtain ⟨a, rfl⟩ : ∃ a', a = a' + 1 := ⟨a - 1, by omega⟩
  obtain ⟨b, rfl⟩ : ∃ b', b = b' + 1 := ⟨b - 1, by omega⟩
  refine ⟨_, _, rfl, rfl, fun h => ?_⟩
  injection h with _ h
  exact xor_ne y (byte_inj h)
/-- A step of the row that is written while another row of the call's own stands by. -/
theorem two_step {w w1 w2 : World} {t : TypeId} {A B : Option Addr} {n c m d lo : Nat} {xs ys : List Value} (ho : Ow w t A n c lo w.heap.size xs) (kp : Ow w t B m d lo w.heap.size ys) (ap : Apart A B n c m d)
    (hlo : lo ≤ w.heap.size) (hb : Below w.heap.size w w1) (hg : w1.grownBy w2 (Value.slice A n c).ownBlock) : Ow w2 t B m d lo w2.heap.size ys ∧ Below lo w w2 :=
  ⟨((kp.below hb (Nat.le_refl _)).apart ap hg).more (Nat.le_trans hb.size hg.size), (hb.mono hlo).trans (grown_below hg (fun k hk => (ho.rng k hk).1) (Nat.le_trans hlo hb.size))⟩
theorem apart_in {W : World} {t : TypeId} {A B : Option Addr} {c d lo hi lo' hi' : Nat} {kk : List UInt8} {j : Nat} (o : Ow W t A (j + 1) c lo hi (bv (maskL (kk.take (j + 1)) 54))) (p : Ow W t B j d lo' hi' (bv (maskL (kk.take j) 92)))
    (hz : j = 0 → d = 0) (hk : 0 < kk.length) : Apart A B (j + 1) c j d := by
  refine apart_of o p ?_
  by_cases hj : j = 0
  · have h1 := o.rd.le
    have h2 := hz hj
    exact .inl (by omega)
  · exact .inr (mask_ne kk (j + 1) j (by omega) (by omega) hk)

set_option maxHeartbeats 1000000 in
theorem S_Hmac_yes (A B : Option Addr) (n c m d : Nat) (k b : List UInt8) (w : World) (h : Rd w A n c (bv k)) (g : Rd w B m d (bv b)) (hn : n ≤ 1048576) (hm : m ≤ 1048512) :
    Calls Try.prog 54 #[.slice A n c, .slice B m d] w fun e w' => Out 5 w (bv (hmacL k b)) e w' := by
  have hk : k.length = n := by have := h.len; rwa [bv_len] at this
  have hbl : b.length = m := by have := g.len; rwa [bv_len] at this
  have HE := Lib.hid (show hmacL k b = shaL (maskL (blockL k) 92 ++ shaL (maskL (blockL k) 54 ++ b)) by rw [hmacL, if_pos ⟨by omega, by omega⟩])
  have HB := Lib.hid (blockL_len k (by omega))
  have hbd := h.bnd
  have hbd2 := g.bnd
  have hn' : ¬ (1048576 : Int) < (n : Int) := by omega
  have hm' : ¬ (1048512 : Int) < (m : Int) := by omega
  clear hk hbl
  go_enter Try.func54, Try.ntmps54
  go_wp2_with fail
  refine (S_BlockKey A n c k w h).mono ?_
  rintro e W1 ⟨A1, n1, c1, rfl, o1, B1⟩
  have hn1 : 64 = n1 := by have h1 := o1.rd.len; rw [bv_len, HB.out] at h1; exact h1
  subst hn1
  generalize blockL k = kk at *
  obtain ⟨kb, ko, rfl, hkb, hkc⟩ := o1.rd.at_ (by omega)
  have KC := Lib.hid hkc
  have HBb := o1.rd.bnd
  have s1 := B1.size
  clear hkc
  go_wp2_with fail
  go_loopw [6, 7, 8] (fun v u i wr => ∃ (j c1' c2' : Nat) (A1' A2' : Option Addr), v = .slice A1' j c1' ∧ u = .slice A2' j c2' ∧ i = .int .i64 j ∧ j ≤ 64 ∧
      Hid (Ow wr 5 A1' j c1' W1.heap.size wr.heap.size (bv (maskL (kk.take j) 54))) ∧ Hid (Ow wr 5 A2' j c2' W1.heap.size wr.heap.size (bv (maskL (kk.take j) 92))) ∧
      Hid (Apart A1' A2' j c1' j c2') ∧ Hid (j = 0 → c2' = 0) ∧ Below W1.heap.size W1 wr)
    (fun _ _ i _ => 64 - (intOf i).toNat)
  case atStart =>
    refine ⟨0, 0, 0, _, _, rfl, rfl, rfl, by omega, ?_, ?_, ?_, fun _ => rfl, balloc (balloc (Below.refl _ _) _) _⟩
    · exact (Ow.of_own ((own_empty W1 5).alloc (.cells #[] 5)))
    · have e := own_empty (W1.alloc (.cells #[] 5)) 5
      rw [show (W1.alloc (.cells #[] 5)).heap.size = W1.heap.size + 1 by simp] at e
      exact (Ow.of_own e).less (by omega)
    · intro q h1 h2
      simp [Value.ownBlock] at h1 h2
      omega
  case round =>
    obtain ⟨j, c3, c4, A3, A4, rfl, rfl, rfl, hj, H1, H2, HA, HZ, hb⟩ := hrel
    have hs := hb.size
    by_cases hlt : j < 64
    · have hlt' : (j : Int) < 64 := by omega
      have hkl : j < kk.length := by have := HB.out; omega
      have fc := (bcell hb kb (ko + j) hkb).trans (KC.out j _ (bv_get hkl))
      have F1 := Lib.hid (maskL_take kk 54 j hkl)
      have F2 := Lib.hid (maskL_take kk 92 j hkl)
      generalize kk[j] = y at *
      have x54 : bits .xor .u8 ((y.toNat : Nat) : Int) 54 = ((y.toNat ^^^ 54 : Nat) : Int) := xor_u8 y 54
      have x92 : bits .xor .u8 ((y.toNat : Nat) : Int) 92 = ((y.toNat ^^^ 92 : Nat) : Int) := xor_u8 y 92
      have HI := Lib.hid (H1.out.own.alloc (.cells #[.int .u8 ((y.toNat ^^^ 54 : Nat) : Int)] 5))
      have hr1 : Rd (wr.alloc (.cells #[.int .u8 ((y.toNat ^^^ 54 : Nat) : Int)] 5)) (some ⟨wr.heap.size, 0, none⟩) 1 1 (bv [y ^^^ 54]) := rd_xor wr 5 y 54
      have q5 : j + 1 ≤ 70368744177664 := by omega
      have q6 : ∀ o, W1.heap.size ≤ (wr.alloc o).heap.size := fun o => by simp; omega
      have BA := fun o => balloc (Below.refl wr.heap.size wr) o
      have hk0 : 0 < kk.length := by omega
      clear hkl
      go_wp2_with (first
        | (at_builtin; refine append_bytes_g _ rfl _ _ rfl W1.heap.size _ _ _ _ rfl HI2 _ _ _ [y ^^^ 92] rfl hr2 q5 (q7 _) ?_; intro A6 c6 W6 HO6 g6)
        | (at_builtin; refine append_bytes_g _ rfl _ _ rfl W1.heap.size _ _ _ _ rfl HI _ _ _ [y ^^^ 54] rfl hr1 q5 (q6 _) ?_; intro A5 c5 W5 HO5 g5; have T5 := two_step H1.out H2.out HA.out hs (BA _) g5; have O5 := Ow.of_own HO5.out; rw [← F1.out] at O5; have HA5 := apart_in O5 T5.1 HZ.out hk0; have HI2 := Lib.hid (T5.1.own.alloc (.cells #[.int .u8 ((y.toNat ^^^ 92 : Nat) : Int)] 5)); have hr2 : Rd (W5.alloc (.cells #[.int .u8 ((y.toNat ^^^ 92 : Nat) : Int)] 5)) (some ⟨W5.heap.size, 0, none⟩) 1 1 (bv [y ^^^ 92]) := rd_xor W5 5 y 92; have q7 : ∀ o, W1.heap.size ≤ (W5.alloc o).heap.size := fun o => Nat.le_trans (Nat.le_trans hs T5.2.size) (Below.alloc (Below.refl W5.heap.size W5) (Nat.le_refl _) o).size; have fc5 := (T5.2.cell (p := ⟨kb, ko + j, none⟩) hkb).trans fc))
      have T6 := two_step T5.1 O5 HA5.symm (Nat.le_trans hs T5.2.size) (balloc (Below.refl W5.heap.size W5) _) g6
      have O6 := Ow.of_own HO6.out
      rw [← F2.out] at O6
      go_roundw
      case rel => exact ⟨j + 1, c5, c6, A5, A6, rfl, rfl, by go_num, by omega, T6.1, O6, apart_of T6.1 O6 (.inr (mask_ne kk (j + 1) (j + 1) (by omega) (by omega) hk0)), fun h => absurd h (by omega), (hb.trans T5.2).trans T6.2⟩
      case measure => simp [intOf]; omega
    · have hlt' : ¬ (j : Int) < 64 := by omega
      obtain rfl : j = 64 := by omega
      have hkk : kk.take 64 = kk := by rw [← HB.out, List.take_length]
      have h1 := H1.out
      have h2 := H2.out
      rw [hkk] at h1 h2
      have HI := Lib.hid h1.own
      have gr := (g.below B1 (Nat.le_refl _)).below hb (Nat.le_refl _)
      have q5 : 64 + m ≤ 70368744177664 := by omega
      clear hkk H1 H2
      go_wp2_with (at_builtin; refine append_bytes_g _ rfl _ _ rfl W1.heap.size _ _ _ _ rfl HI _ _ _ b rfl gr q5 hs ?_; intro A5 c5 W5 HO5 g5)
      have T5 := two_step h1 h2 HA.out hs (Below.refl _ wr) g5
      have C := Lib.hid (S_Sha A5 (64 + m) c5 (maskL kk 54 ++ b) W5 (own_rd HO5.out))
      have hd1 := shaL_le (maskL kk 54 ++ b)
      generalize shaL (maskL kk 54 ++ b) = d1 at *
      have s5 := T5.2.size
      refine C.out.mono ?_
      rintro e W6 ⟨A6, n6, c6, rfl, o6, b6⟩
      have hn6 : n6 ≤ 32 := by have := o6.rd.len; rw [bv_len] at this; omega
      have s6 := b6.size
      have HI2 := Lib.hid (T5.1.below b6 (Nat.le_refl _)).own
      have q6 : 64 + n6 ≤ 70368744177664 := by omega
      have q7 : W1.heap.size ≤ W6.heap.size := by omega
      have hr6 := o6.rd
      clear HI gr C
      go_wp2_with (at_builtin; refine append_bytes _ rfl _ _ rfl W1.heap.size _ _ _ _ rfl HI2 _ _ _ d1 rfl hr6 q6 q7 ?_; intro A7 c7 W7 HO7 b7)
      have D := Lib.hid (S_Sha A7 (64 + n6) c7 (maskL kk 92 ++ d1) W7 (own_rd HO7.out))
      rw [← HE.out] at D
      have B7 : Below w.heap.size w W7 := B1.trans ((((hb.trans T5.2).trans (b6.mono (by omega))).trans b7).mono s1)
      refine D.out.mono ?_
      rintro e W8 ⟨A8, n8, c8, rfl, o8, b8⟩
      go_wp2_with fail
      exact bodyPost_ret (v := .slice A8 n8 c8) (by simp [results, Try.results54, go_sem]) rfl ⟨_, _, _, rfl, o8.less B7.size, bnext B7 b8⟩

theorem S_Hmac (A B : Option Addr) (n c m d : Nat) (k b : List UInt8) (w : World) (h : Rd w A n c (bv k)) (g : Rd w B m d (bv b)) :
    Calls Try.prog 54 #[.slice A n c, .slice B m d] w fun e w' => Out 5 w (bv (hmacL k b)) e w' := by
  have hk : k.length = n := by have := h.len; rwa [bv_len] at this
  have hbl : b.length = m := by have := g.len; rwa [bv_len] at this
  have hbd := h.bnd
  have hbd2 := g.bnd
  by_cases hn : n ≤ 1048576
  · by_cases hm : m ≤ 1048512
    · exact S_Hmac_yes A B n c m d k b w h g hn hm
    · have HS := Lib.hid (show hmacL k b = [] by rw [hmacL, if_neg (by omega)])
      have hn' : ¬ (1048576 : Int) < (n : Int) := by omega
      have hm' : (1048512 : Int) < (m : Int) := by omega
      clear hk hbl
      go_enter Try.func54, Try.ntmps54
      go_wp2_with fail
      exact bodyPost_ret (v := .slice (some ⟨w.heap.size, 0, none⟩) 0 0) (by simp [results, Try.results54, go_sem]) rfl (by rw [HS.out]; exact out_lit w _ #[] 0 rfl (by omega))
  · have HS := Lib.hid (show hmacL k b = [] by rw [hmacL, if_neg (by omega)])
    have hn' : (1048576 : Int) < (n : Int) := by omega
    clear hk hbl
    go_enter Try.func54, Try.ntmps54
    go_wp2_with fail
    exact bodyPost_ret (v := .slice (some ⟨w.heap.size, 0, none⟩) 0 0) (by simp [results, Try.results54, go_sem]) rfl (by rw [HS.out]; exact out_lit w _ #[] 0 rfl (by omega))

end Go.Proofs.Ytbjbncmhnhlkpaa
