/- Contract of the reference's Sha: for every slice of bytes. -/
import Derived.Test.YtnngiampfdjlfaaCompAll
namespace Go.Proofs.Ytnngiampfdjlfaa
open Go.ChangeShapes Go.WideShapes Go.ChangeAt Go.RowKit
set_option linter.unusedVariables false

theorem S_Sha_yes (A : Option Addr) (N c : Nat) (l : List UInt8) (w : World) (h : Rd w A N c (bv l)) (hN : N ≤ 1048576) :
    Calls Try.prog 24 #[.slice A N c] w fun e w' => Out 5 w (bv (shaL l)) e w' := by
  have hl : l.length = N := by have := h.len; rwa [bv_len] at this
  have HL := Lib.hid hl
  have hbd := h.bnd
  have hN' : ¬ (1048576 : Int) < (N : Int) := by omega
  have hpl := padL_len (N : Int)
  have HSH := Lib.hid (show shaL l = outR (allL startL (l ++ padL N) ((l ++ padL N).length / 64)) 8 by rw [shaL, if_pos (by omega), hl])
  have HTL := Lib.hid (show (l ++ padL N).length = N + (padL N).length by rw [List.length_append, hl])
  have HM := Lib.hid (padL_mod N hN)
  clear hl
  have CP := Lib.hid fun W => (S_Pad (N : Int) W)
  go_enter Try.func24, Try.ntmps24
  have q5 : 0 + N ≤ 70368744177664 := by omega
  have q6 : w.heap.size ≤ (w.alloc (.cells #[] 5)).heap.size := by simp
  have HOA := Lib.hid (own_empty w 5)
  have hra := h.alloc (.cells #[] 5)
  go_wp2_with (at_builtin; refine append_bytes _ rfl _ _ rfl w.heap.size _ _ _ [] rfl HOA _ _ _ l rfl hra q5 q6 ?_; intro A1 c1 W1 HO1 hb1)
  have ho1 := HO1.out
  rw [Nat.zero_add, List.nil_append] at ho1
  have B1 : Below w.heap.size w W1 := (balloc (Below.refl _ _) _).trans hb1
  refine (CP.out _).mono ?_
  rintro e W2 ⟨A2, n2, c2, rfl, o2, b2⟩
  have hn2 : Hid (n2 = (padL N).length) := by have := o2.rd.len; rw [bv_len] at this; exact this.symm
  have hn2' : n2 ≤ 72 := by have := hn2.out; omega
  have HO2 := Lib.hid (((Ow.of_own ho1).below b2 (Nat.le_refl _)).own)
  have B2 := bnext B1 b2
  have hr2 := o2.rd
  have q7 : N + n2 ≤ 70368744177664 := by omega
  have q8 := B2.size
  clear q5 q6 HOA hra ho1 HO1
  go_wp2_with (at_builtin; refine append_bytes _ rfl _ _ rfl w.heap.size _ _ _ l rfl HO2 _ _ _ (padL N) rfl hr2 q7 q8 ?_; intro A3 c3 W3 HO3 hb3)
  have B3 : Below w.heap.size w W3 := B2.trans hb3
  have HRA := Lib.hid (own_rd HO3.out)
  have HT : Hid (∃ m, N + n2 = 64 * m ∧ (l ++ padL N).length / 64 = m) := by
    have h1 := HTL.out
    have h2 := HM.out
    have h3 := hn2.out
    exact ⟨(N + n2) / 64, by omega, by omega⟩
  have hTb : N + n2 ≤ 1048648 := by omega
  obtain ⟨m, hm1, hm2⟩ := HT.out
  have HSF := HSH.out
  rw [hm2] at HSF
  have HSF := Lib.hid HSF
  have HM1 := Lib.hid hm1
  clear HT hm1 hm2
  generalize hall : l ++ padL N = all at *
  clear HSH HTL HM HO3 HO2 hr2 q7 q8 hb3 hn2 hn2' hpl o2 b2 CP hall
  generalize hT : N + n2 = T at *
  refine (S_Start _).mono ?_
  rintro e W4 ⟨A4, n4, c4, rfl, o4, b4⟩
  have B4 := bnext B3 b4
  have HR4 := Lib.hid (HRA.out.below b4 (Nat.le_refl _))
  clear HRA b4 hT
  have h4 := o4.rd
  clear o4
  go_wp2_with fail
  go_loopw [4, 5] (fun v i wr => ∃ (j p n' c' : Nat) (A' : Option Addr), v = .slice A' n' c' ∧ i = .int .i64 p ∧ Hid (p = 64 * j) ∧ p ≤ T ∧
      Hid (Rd wr A' n' c' (iv (allL startL all j))) ∧ Below W4.heap.size W4 wr)
    (fun _ i _ => T - (intOf i).toNat)
  case atStart => exact ⟨0, 0, n4, c4, A4, rfl, rfl, rfl, by omega, h4, Below.refl _ _⟩
  case round =>
    obtain ⟨j, p, n', c', A', rfl, rfl, HJ, hp, HA, hb⟩ := hrel
    have hr4 := HR4.out.below hb (Nat.le_refl _)
    by_cases hlt : p < T
    · have hlt' : (p : Int) < (T : Int) := by omega
      have hp64 : p + 64 ≤ T := by have h1 := HJ.out; have h2 := HM1.out; omega
      have hbT := hr4.bnd
      have hn : n' ≤ 8796093022208 := by have h1 := HA.out.len; rw [iv_len, allL_len] at h1; have h2 : startL.length = 8 := rfl; omega
      have hD := hr4.cut p 64 hp64
      rw [if_neg (by omega), bv_cut] at hD
      have C := Lib.hid (S_Compress _ _ _ _ _ _ (allL startL all j) ((all.drop p).take 64) wr HA.out hD hn)
      clear hr4 hD
      go_wp2_with fail
      refine C.out.mono ?_
      rintro e W5 ⟨A5, n5, c5, rfl, o5, b5⟩
      have h5 := o5.rd
      rw [HJ.out] at h5
      have B5 := bnext hb b5
      go_wp2_with fail
      go_roundw
      case rel => exact ⟨j + 1, p + 64, n5, c5, A5, rfl, by go_num, by have := HJ.out; show _ = _; omega, by omega, h5, B5⟩
      case measure => simp [intOf]; omega
    · have hlt' : ¬ (p : Int) < (T : Int) := by omega
      have hjm : j = m := by have h1 := HJ.out; have h2 := HM1.out; omega
      subst hjm
      have hn : n' = 8 := by have h1 := HA.out.len; rw [iv_len, allL_len] at h1; have h2 : startL.length = 8 := rfl; omega
      have C := Lib.hid (S_Out A' n' c' (allL startL all j) wr HA.out hn)
      clear hn
      go_wp2_with fail
      refine C.out.mono ?_
      rintro e W5 ⟨A5, n5, c5, rfl, o5, b5⟩
      have B5 := bnext (bnext B4 hb) b5
      go_wp2_with fail
      exact bodyPost_ret (v := .slice A5 n5 c5) (by simp [results, Try.results24, go_sem]) rfl (by rw [HSF.out]; exact ⟨_, _, _, rfl, o5.less (by have h1 := B4.size; have h2 := hb.size; omega), B5⟩)

theorem S_Sha (A : Option Addr) (N c : Nat) (l : List UInt8) (w : World) (h : Rd w A N c (bv l)) :
    Calls Try.prog 24 #[.slice A N c] w fun e w' => Out 5 w (bv (shaL l)) e w' := by
  have hl : l.length = N := by have := h.len; rwa [bv_len] at this
  by_cases hN : N ≤ 1048576
  · exact S_Sha_yes A N c l w h hN
  · have HS := Lib.hid (show shaL l = [] by rw [shaL, if_neg (by omega)])
    have hbd := h.bnd
    have hN' : (1048576 : Int) < (N : Int) := by omega
    clear hl
    go_enter Try.func24, Try.ntmps24
    go_wp2_with fail
    exact bodyPost_ret (v := .slice (some ⟨w.heap.size, 0, none⟩) 0 0) (by simp [results, Try.results24, go_sem]) rfl (by rw [HS.out]; exact out_lit w _ #[] 0 rfl (by omega))

end Go.Proofs.Ytnngiampfdjlfaa
