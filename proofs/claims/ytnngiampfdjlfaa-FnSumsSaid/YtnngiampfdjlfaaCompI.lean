/- Contract of the program's Compress: for 8 words and a block of 64 bytes. -/
import Derived.Test.YtnngiampfdjlfaaCompS
import Derived.Deep.RegionHeld3
namespace Go.Proofs.Ytnngiampfdjlfaa
open Go.ChangeShapes Go.WideShapes Go.ChangeAt Go.RowKit
set_option linter.unusedVariables false

set_option maxRecDepth 100000 in
set_option maxHeartbeats 1000000 in
theorem I_Comp_yes (A B : Option Addr) (N c M d : Nat) (hs : List Int) (l : List UInt8) (w : World) (h : Rd w A N c (iv hs)) (k : Rd w B M d (bv l)) (hN : N = 8) (hM : M = 64) (hw : wordsB hs = true) :
    Calls Try.prog 56 #[.slice A N c, .slice B M d] w fun e w' => Out 3 w (iv (addL hs (stA hs (schL l 64) 64).list)) e w' := by
  subst hN; subst hM
  have hl : l.length = 64 := by have := k.len; rwa [bv_len] at this
  have hh : hs.length = 8 := by have := h.len; rwa [iv_len] at this
  have HL := Lib.hid hl
  have HH := Lib.hid hh
  have HW := Lib.hid (((wordsB_iff hs).1 hw).1)
  have hbd := h.bnd
  have kbd := k.bnd
  have CW := Lib.hid fun W hh => ((I_Words A 8 c hs W hh).mono fun e w' h' => (⟨by rw [h'.1, hw], h'.2⟩ : e = .returned (.bool true) ∧ W = w'))
  have CS := Lib.hid fun W hh => ((I_Schedule B 64 d l W hh).mono fun e w' h' => (show Out 3 W (iv (schL l 64)) e w' by rwa [schedL, if_pos hl] at h'))
  clear hl hh hw
  go_enter Try.func56, Try.ntmps56
  have q5 : 0 + 8 ≤ 70368744177664 / 8 := by omega
  have q6 : w.heap.size ≤ (w.alloc (.cells #[] 3)).heap.size := by simp
  have HOA := Lib.hid (own_empty w 3)
  have hra := h.alloc (.cells #[] 3)
  go_wp2_with (at_builtin; refine append_ints _ rfl _ _ rfl w.heap.size _ _ _ [] rfl HOA _ _ _ hs rfl hra q5 q6 ?_; intro A1 c1 W1 HO1 hb1)
  have B1 : Below w.heap.size w W1 := (balloc (Below.refl _ _) _).trans hb1
  refine (CW.out _ (h.below B1 (Nat.le_refl _))).mono ?_
  rintro e W2 ⟨rfl, rfl⟩
  go_wp2_with fail
  refine (CS.out _ (k.below B1 (Nat.le_refl _))).mono ?_
  rintro e W3 ⟨A3, n3, c3, rfl, o3, b3⟩
  obtain rfl := out_n o3 (schL_len l 64)
  have B3 := bnext B1 b3
  have HO3 := Lib.hid (((Ow.of_own HO1.out).below b3 (Nat.le_refl _)).more b3.size)
  obtain ⟨ga, oa, rfl, hla, fa0⟩ := rd_get h (by omega)
  have FA0 := Lib.hid fa0
  have fa : ∀ j, j < 8 → W3.cell? ⟨ga, oa + j, none⟩ = some (.int .i64 (hs.getD j 0)) := fun j hj => (bcell B3 ga (oa + j) hla).trans (fa0 j hj)
  clear fa0
  obtain ⟨gw, rfl, _, hlw, fw, _⟩ := own_get o3.own (by omega)
  have FW := Lib.hid fw
  obtain ⟨s0, hs0⟩ : ∃ s, s = Sx.of hs := ⟨_, rfl⟩
  have f0 : W3.cell? ⟨ga, oa, none⟩ = some (.int .i64 s0.a) := by rw [hs0]; exact fa 0 (by omega)
  have f1 : W3.cell? ⟨ga, oa + 1, none⟩ = some (.int .i64 s0.b) := by rw [hs0]; exact fa 1 (by omega)
  have f2 : W3.cell? ⟨ga, oa + 2, none⟩ = some (.int .i64 s0.c) := by rw [hs0]; exact fa 2 (by omega)
  have f3 : W3.cell? ⟨ga, oa + 3, none⟩ = some (.int .i64 s0.d) := by rw [hs0]; exact fa 3 (by omega)
  have f4 : W3.cell? ⟨ga, oa + 4, none⟩ = some (.int .i64 s0.e) := by rw [hs0]; exact fa 4 (by omega)
  have f5 : W3.cell? ⟨ga, oa + 5, none⟩ = some (.int .i64 s0.f) := by rw [hs0]; exact fa 5 (by omega)
  have f6 : W3.cell? ⟨ga, oa + 6, none⟩ = some (.int .i64 s0.g) := by rw [hs0]; exact fa 6 (by omega)
  have f7 : W3.cell? ⟨ga, oa + 7, none⟩ = some (.int .i64 s0.z) := by rw [hs0]; exact fa 7 (by omega)
  have HS0 := Lib.hid hs0
  clear hs0
  clear fa fw b3 hb1 hra HOA q5 q6 CW CS
  go_wp2_with fail
  go_quiet (fail)
  clear f0 f1 f2 f3 f4 f5 f6 f7
  go_wp2_with fail
  go_loopw [7, 8, 9, 10, 11, 12, 13, 14, 15] (fun a b c d e f g z i wr => ∃ (k : Nat) (s : Sx), Hid (s = stA hs (schL l 64) k) ∧ a = .int .i64 s.a ∧ b = .int .i64 s.b ∧ c = .int .i64 s.c ∧ d = .int .i64 s.d ∧ e = .int .i64 s.e ∧ f = .int .i64 s.f ∧ g = .int .i64 s.g ∧ z = .int .i64 s.z ∧
      i = .int .i64 k ∧ k ≤ 64 ∧ Below W3.heap.size W3 wr)
    (fun _ _ _ _ _ _ _ _ i _ => 64 - (intOf i).toNat)
  case atStart => exact ⟨0, s0, HS0.out, rfl, rfl, rfl, rfl, rfl, rfl, rfl, rfl, rfl, by omega, bdrewN (Below.refl _ _) nq⟩
  case round =>
    obtain ⟨k, s, HS, rfl, rfl, rfl, rfl, rfl, rfl, rfl, rfl, rfl, hk, hdr⟩ := hrel
    have HD := Lib.hid hdr
    clear hdr
    have hok := stA_ok HW.out (schL l 64) k
    rw [← HS.out] at hok
    obtain ⟨wa, wb, wc, wd, we, wf, wg, wz⟩ := hok
    by_cases hlt : k < 64
    · have hlt' : (k : Int) < 64 := by omega
      have hgw : gw < wr.heap.size := by have := HD.out.size; omega
      have fw : wr.cell? ⟨gw, k, none⟩ = some (.int .i64 ((schL l 64).getD k 0)) := by
        have := bcell HD.out gw k hlw
        exact this.trans (FW.out k hlt)
      have HN : Hid (∀ x, x = (schL l 64).getD k 0 → stA hs (schL l 64) (k + 1) = stepX s (kAt k) x) := by
        intro x hx
        rw [stA, ← HS.out, hx]
      have HX := Lib.hid (rfl : (schL l 64).getD k 0 = (schL l 64).getD k 0)
      have wx := getD_wd (schL_wd l 64) k
      have HN := Lib.hid (HN.out _ rfl)
      clear HX
      generalize (schL l 64).getD k 0 = x at fw wx HN
      have wk := kAt_bd k
      have CR := Lib.hid (I_RoundWord_in k (by omega))
      generalize kAt k = y at wk HN CR
      have w1 := bs1_wd s.e
      have w2 := bs0_wd s.a
      have w3 := chX_wd we wf wg
      have w4 := mjX_wd wa wb wc
      have e1 : bits .xor .i64 (bits .xor .i64 (rot s.e 6) (rot s.e 11)) (rot s.e 25) = bs1 s.e := rfl
      have e2 : bits .xor .i64 (bits .xor .i64 (rot s.a 2) (rot s.a 13)) (rot s.a 22) = bs0 s.a := rfl
      have e3 : bits .xor .i64 (bits .and .i64 s.e s.f) (bits .and .i64 (bits .xor .i64 4294967295 s.e) s.g) = chX s.e s.f s.g := by rw [chX, xor_comm64 s.e]
      have e4 : bits .xor .i64 (bits .xor .i64 (bits .and .i64 s.a s.b) (bits .and .i64 s.a s.c)) (bits .and .i64 s.b s.c) = mjX s.a s.b s.c := rfl
      go_wp2_with fail
      go_region_held3 (fun w' => w'.cell? ⟨gw, k, none⟩ = some (.int .i64 x)) (first | exact fw2 | exact fw)
        (first
          | (go_at_call 65; refine (I_Rot s.e _ _).mono ?_; rintro e W4 ⟨rfl, d1, rfl⟩)
          | (go_at_call 66; refine (CR.out _).mono ?_; rintro e W5 ⟨rfl, b5⟩; have fw2 := (b5.cell (p := ⟨gw, k, none⟩) hgw).trans fw))
      have B5 := bnext (bdrewN HD.out _) b5
      go_wp2_with fail
      refine (I_Rot s.a 2 _).mono ?_
      rintro e W1 ⟨rfl, d1, rfl⟩
      go_wp2_with fail
      refine (I_Rot s.a 13 _).mono ?_
      rintro e W2 ⟨rfl, d2, rfl⟩
      go_wp2_with fail
      refine (I_Rot s.a 22 _).mono ?_
      rintro e W4 ⟨rfl, d3, rfl⟩
      go_wp2_with fail
      refine (I_Add32 _ _ _).mono ?_
      rintro e W6 ⟨rfl, rfl⟩
      go_wp2_with fail
      refine (I_Add32 _ _ _).mono ?_
      rintro e W6 ⟨rfl, rfl⟩
      go_wp2_with fail
      go_roundw
      case rel => exact ⟨k + 1, stepX s y x, HN.out.symm, rfl, rfl, rfl, rfl, rfl, rfl, rfl, rfl, by go_num, by omega, bdrewN B5 _⟩
      case measure => simp [intOf]; omega
    · have hlt' : ¬ (k : Int) < 64 := by omega
      obtain rfl : k = 64 := by omega
      clear FW hlw o3
      rename World => V
      have HOR : Hid (V.ownsRow w.heap.size 3 1 (.slice A1 8 c1) 8 (iv (addR hs s.list 0)) ∧ Below w.heap.size w V ∧ W3.heap.size ≤ V.heap.size) := by
        rw [addR_zero]
        exact ⟨(HO3.out.below HD.out (Nat.le_refl _)).own, bnext B3 HD.out, HD.out.size⟩
      obtain ⟨g1, rfl, hg1, hg2, _, _⟩ := own_get HOR.out.1 (by omega)
      go_wp2_with fail
      go_loopw [135] (fun i wq => ∃ (j : Nat), i = .int .i64 j ∧ j ≤ 8 ∧ Hid (wq.ownsRow w.heap.size 3 1 (.slice (some ⟨g1, 0, none⟩) 8 c1) 8 (iv (addR hs s.list j)) ∧ Below w.heap.size w wq) ∧
          Hid (∀ m, m < 8 → wq.cell? ⟨V.heap.size, m, none⟩ = some (.int .i64 (s.list.getD m 0))))
        (fun i _ => 8 - (intOf i).toNat)
      case atStart =>
        refine ⟨0, rfl, by omega, ⟨HOR.out.1.alloc _, balloc HOR.out.2.1 _⟩, fun m hm => ?_⟩
        have hrow := World.ownsRow_lit (e := 3) (size := 1) (base := V.heap.size) V #[.int .i64 s.a, .int .i64 s.b, .int .i64 s.c, .int .i64 s.d, .int .i64 s.e, .int .i64 s.f, .int .i64 s.g, .int .i64 s.z] 8 (Nat.le_refl _) (by unfold maxLen; omega) rfl
        obtain ⟨g, hA, _, _, hc, _⟩ := own_get (xs := s.list) hrow (by omega)
        injection hA with hA
        injection hA with h4 h5 h6
        subst h4
        exact hc m hm
      case round =>
        clear HO3 HD
        obtain ⟨j, rfl, hj, HO, HL2⟩ := hrel
        by_cases hlt : j < 8
        · have hlt2 : (j : Int) < 8 := by omega
          have hB := HO.out.2
          have fx : wr.cell? ⟨ga, oa + j, none⟩ = some (.int .i64 (hs.getD j 0)) := (bcell hB ga (oa + j) hla).trans (FA0.out j hlt)
          have fy := HL2.out j hlt
          obtain ⟨g, hA, _, _, fo, fr⟩ := own_get HO.out.1 (by omega)
          injection hA with hA
          injection hA with h4 h5 h6
          subst h4
          have fo := fo j hlt
          have fr := fr j
          have wx := getD_wd HW.out j
          have wy := getD_wd (Sx.list_wd wa wb wc wd we wf wg wz) j
          have HS : Hid ((addR hs s.list j).set j ((hs.getD j 0 + s.list.getD j 0) % 4294967296) = addR hs s.list (j + 1)) := addR_set hs s HH.out j hlt _ _ (by have := HH.out; simp [List.getD, show j < hs.length by omega]) (by simp [List.getD, Sx.list, show j < 8 by omega])
          generalize hs.getD j 0 = x at fx wx HS
          generalize s.list.getD j 0 = y at fy wy HS
          have HOV : Hid (wr.ownsRow w.heap.size 3 1 (.slice (some ⟨g1, 0, none⟩) 8 c1) 8 (iv (addR hs s.list j)) ∧ Below w.heap.size w wr) := HO.out
          have HP := Lib.hid (fun u => Ow.put HOV.out.1 j u hg1 HOV.out.2.size)
          clear HO hB
          go_wp2_with fail
          refine (I_Add32 _ _ _).mono ?_
          rintro e W6 ⟨rfl, rfl⟩
          go_wp2_with fail
          go_roundw
          case rel =>
            have hp := (HP.out (.int .i64 ((x + y) % 4294967296))).1
            have hp2 := (HP.out (.int .i64 ((x + y) % 4294967296))).2
            rw [iv_set, HS.out] at hp
            have hb4 := HOV.out.2.trans hp2
            have hl2 : ∀ m, m < 8 → (wr.setCell ⟨g1, j, none⟩ (.int .i64 ((x + y) % 4294967296))).cell? ⟨V.heap.size, m, none⟩ = some (.int .i64 (s.list.getD m 0)) := fun m hm => (World.cell?_setCell_far wr ⟨g1, j, none⟩ ⟨V.heap.size, m, none⟩ _ (by show g1 ≠ V.heap.size; omega)).trans (HL2.out m hm)
            exact ⟨j + 1, by go_num, by omega, ⟨hp, hb4⟩, hl2⟩
          case measure => simp [intOf]; omega
        · have hlt' : ¬ (j : Int) < 8 := by omega
          obtain rfl : j = 8 := by omega
          have HO8 := Ow.of_own HO.out.1
          rw [addR_full hs s HH.out, HS.out] at HO8
          have hb8 := HO.out.2
          go_wp2_with fail
          exact bodyPost_ret (v := .slice (some ⟨g1, 0, none⟩) 8 c1) (by simp [results, Try.results56, go_sem]) rfl ⟨_, _, _, rfl, HO8, hb8⟩

end Go.Proofs.Ytnngiampfdjlfaa
