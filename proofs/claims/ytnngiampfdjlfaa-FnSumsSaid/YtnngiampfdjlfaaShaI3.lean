/- Contract of the program's Sha: for every slice of bytes. -/
import Derived.Test.YtnngiampfdjlfaaShaI2
namespace Go.Proofs.Ytnngiampfdjlfaa
open Go.ChangeShapes Go.WideShapes Go.ChangeAt Go.RowKit
set_option linter.unusedVariables false

theorem hashEnd_len (l : List Int) (h : List UInt8) (k : Int) : (hashEnd l h k).length ≤ 32 := by
  unfold hashEnd
  split
  · rw [outR_len]; omega
  · exact Nat.zero_le _
theorem addH_len (l : List Int) (h : List UInt8) (k : Int) (b : List UInt8) : (addH l h k b).length ≤ h.length + b.length := by
  unfold addH
  split
  · rw [List.length_drop, List.length_append]; omega
  · omega
theorem addW_len (l : List Int) (h : List UInt8) (k : Int) (b : List UInt8) : (addW l h k b).length = l.length := by
  unfold addW
  split
  · rw [allL_len]
  · rfl
theorem new_ok : hOk startL [] 0 = true := (hOk_iff _ _ _).2 ⟨startL_ok, by omega, by simp⟩
theorem add_new (b : List UInt8) (hb : b.length ≤ 1048576) : addW startL [] 0 b = allL startL b (b.length / 64) ∧ addH startL [] 0 b = b.drop (64 * (b.length / 64)) ∧ addN startL [] 0 b = b.length := by
  have ha : addOk startL [] 0 b := ⟨new_ok, by omega⟩
  refine ⟨?_, ?_, ?_⟩
  · rw [addW, if_pos ha, List.nil_append]
  · rw [addH, if_pos ha, List.nil_append]
  · rw [addN, if_pos ha]; omega
theorem end_new (b : List UInt8) (hb : b.length ≤ 1048576) : hashEnd (addW startL [] 0 b) (addH startL [] 0 b) (addN startL [] 0 b) = shaL b := by
  obtain ⟨h1, h2, h3⟩ := add_new b hb
  have hk : hOk (allL startL b (b.length / 64)) (b.drop (64 * (b.length / 64))) b.length = true := (hOk_iff _ _ _).2 ⟨allL_wd startL_ok _ _, by omega, by rw [List.length_drop]; omega⟩
  rw [h1, h2, h3, hashEnd, if_pos hk, sha_split b hb, endL]

set_option maxHeartbeats 1000000 in
theorem I_Sha (A : Option Addr) (N c : Nat) (l : List UInt8) (w : World) (h : Rd w A N c (bv l)) :
    Calls Try.prog 22 #[.slice A N c] w fun e w' => Out 5 w (bv (shaL l)) e w' := by
  have hl : l.length = N := by have := h.len; rwa [bv_len] at this
  have hbd := h.bnd
  by_cases hN : N ≤ 1048576
  · have HE := Lib.hid (end_new l (by omega))
    have hN' : ¬ (1048576 : Int) < (N : Int) := by omega
    have hL : l.length ≤ 1048576 := by omega
    clear hl
    go_enter Try.func22, Try.ntmps22
    go_wp2_with fail
    refine (I_HashNew _).mono ?_
    rintro e W1 ⟨A1, n1, c1, B1, m1, d1, rfl, o1, b1⟩
    have hn1 : n1 ≤ 8796093022208 := by have := o1.ints.rd.len; rw [iv_len] at this; have h2 : startL.length = 8 := rfl; omega
    have hm1 : m1 ≤ 4000000 := by have := o1.bytes.rd.len; simp [bv] at this; omega
    have C := Lib.hid (I_HashAdd A1 B1 n1 c1 m1 d1 startL [] 0 A N c l W1 o1.ints.rd o1.bytes.rd (h.below b1 (Nat.le_refl _)) hm1 (by omega) hn1)
    clear o1 hn1 hm1
    go_wp2_with fail
    refine C.out.mono ?_
    rintro e W2 ⟨A2, n2, c2, B2, m2, d2, rfl, o2, b2⟩
    have X2 := bnext b1 b2
    have hm2 : m2 ≤ 4000000 := by have := o2.bytes.rd.len; rw [bv_len] at this; have h2 := addH_len startL [] 0 l; simp at h2; omega
    have D := Lib.hid (I_HashEnd A2 B2 n2 c2 m2 d2 _ _ (addN startL [] 0 l) W2 o2.ints.rd o2.bytes.rd hm2)
    rw [HE.out] at D
    clear o2 hm2
    generalize addN startL [] 0 l = q at *
    go_wp2_with fail
    refine D.out.mono ?_
    rintro e W3 ⟨A3, n3, c3, rfl, o3, b3⟩
    go_wp2_with fail
    exact bodyPost_ret (v := .slice A3 n3 c3) (by simp [results, Try.results22, go_sem]) rfl ⟨_, _, _, rfl, o3.less X2.size, bnext X2 b3⟩
  · have HS := Lib.hid (show shaL l = [] by rw [shaL, if_neg (by omega)])
    have hN' : (1048576 : Int) < (N : Int) := by omega
    clear hl
    go_enter Try.func22, Try.ntmps22
    go_wp2_with fail
    exact bodyPost_ret (v := .slice none 0 0) (by simp [results, Try.results22, go_sem]) rfl (by rw [HS.out]; exact ⟨_, _, _, rfl, Ow.nil_ _ _ _ _, Below.refl _ _⟩)

end Go.Proofs.Ytnngiampfdjlfaa
