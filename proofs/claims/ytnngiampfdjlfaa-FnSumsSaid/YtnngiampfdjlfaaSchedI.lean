/- Contract of the program's Schedule: its row is made whole and then written place by place. -/
import Derived.Test.YtnngiampfdjlfaaSched
import Derived.OwnWalk
import Derived.BigQuiet
import Derived.BigRegion
namespace Go.Proofs.Ytnngiampfdjlfaa
open Go.ChangeShapes Go.WideShapes Go.ChangeAt Go.RowKit
set_option linter.unusedVariables false

/-- The row of the program's schedule, k words of it laid. -/
def schR (l : List UInt8) (k : Nat) : List Int := schL l k ++ List.replicate (64 - k) 0
theorem schR_len (l : List UInt8) (k : Nat) (h : k ≤ 64) : (schR l k).length = 64 := by simp [schR, schL_len]; omega
theorem schR_set (l : List UInt8) (k : Nat) (h : k < 64) (x : Int) (hx : schL l (k + 1) = schL l k ++ [x]) : (schR l k).set k x = schR l (k + 1) := by
  have e : 64 - k = (64 - (k + 1)) + 1 := by omega
  rw [schR, schR, hx, e, List.replicate_succ, List.set_append_right _ _ (by rw [schL_len]; exact Nat.le_refl _), schL_len]
  simp
theorem schR_at (l : List UInt8) (k i : Nat) (h : i < k) : (iv (schR l k))[i]? = some (.int .i64 ((schL l k).getD i 0)) := by
  rw [iv, List.getElem?_map, schR, List.getElem?_append_left (by rw [schL_len]; exact h), schL_at l k i h]
  rfl
theorem schR_next (l : List UInt8) (k : Nat) (h : k < 64) : (iv (schR l k))[k]? = some (.int .i64 0) := by
  rw [iv, List.getElem?_map, schR, List.getElem?_append_right (by rw [schL_len]; exact Nat.le_refl _), schL_len]
  simp [List.getElem?_replicate]
  omega
theorem iv_set (l : List Int) (k : Nat) (x : Int) : (iv l).set k (.int .i64 x) = iv (l.set k x) := by simp [iv]
theorem schR_full (l : List UInt8) : schR l 64 = schL l 64 := by simp [schR]

/-- A row written at one place. -/
theorem Ow.put {w : World} {t : TypeId} {g n c lo : Nat} {xs : List Value} (h : w.ownsRow lo t 1 (.slice (some ⟨g, 0, none⟩) n c) n xs) (j : Nat) (u : Value) (hlo : lo ≤ g) (hg : lo ≤ w.heap.size) :
    (w.setCell ⟨g, j, none⟩ u).ownsRow lo t 1 (.slice (some ⟨g, 0, none⟩) n c) n (xs.set j u) ∧ Below lo w (w.setCell ⟨g, j, none⟩ u) := by
  obtain ⟨h1, h2⟩ := h.stored j u
  exact ⟨h1, grown_below h2 (fun k hk => by injection hk with hk; omega) hg⟩

set_option maxHeartbeats 1000000 in
theorem I_Sched_yes (A : Option Addr) (N c : Nat) (l : List UInt8) (w : World) (h : Rd w A N c (bv l)) (hN : N = 64) :
    Calls Try.prog 64 #[.slice A N c] w fun e w' => Out 3 w (iv (schL l 64)) e w' := by
  subst hN
  have hl : l.length = 64 := by have := h.len; rwa [bv_len] at this
  have HL := Lib.hid hl
  have hbd := h.bnd
  clear hl
  obtain ⟨i0, hi0, hz0, hz1, hz2⟩ := info_parts info_i64
  go_enter Try.func64, Try.ntmps64
  go_wp2_with (at_make; refine wpList_make_full w rfl _ _ _ rfl w.heap.size 3 i0 (.int .i64 0) 1 Try.underlying27 hi0 hz0 hz1 .i64 .i64 64 64 64 rfl rfl rfl rfl (by omega) (by unfold maxLen; omega) (Nat.le_refl _) ?_; intro W0 HO0 HG0)
  have eM : (madeCells (Value.int .i64 0).cells (64 * 1)).toList = iv (schR l 0) := by
    rw [show (Value.int .i64 0).cells = #[.int .i64 0] from rfl, toList_madeCells_one]
    simp [schR, schL, iv]
  have HO0 : Hid (W0.ownsRow w.heap.size 3 1 (.slice (some ⟨w.heap.size, 0, none⟩) 64 64) 64 (iv (schR l 0))) := by rw [← eM]; exact HO0
  clear eM
  have HB0 : Below w.heap.size w W0 := grown_below HG0 (fun k hk => by cases hk) (Nat.le_refl _)
  clear hi0 hz0 hz1 hz2 HG0
  go_loopw [4] (fun i wr => ∃ (k : Nat), i = .int .i64 k ∧ k ≤ 16 ∧
      Hid (wr.ownsRow w.heap.size 3 1 (.slice (some ⟨w.heap.size, 0, none⟩) 64 64) 64 (iv (schR l k))) ∧ Below w.heap.size w wr)
    (fun i _ => 16 - (intOf i).toNat)
  case atStart => exact ⟨0, rfl, by omega, HO0, HB0⟩
  case round =>
    clear HO0 HB0
    obtain ⟨k, rfl, hk, HO, hb⟩ := hrel
    by_cases hlt : k < 16
    · have hlt' : (k : Int) < 16 := by omega
      have hlt6 : (k : Int) < 64 := by omega
      have HG := Lib.hid (getN_word l k (by rw [HL.out]; omega))
      have C := Lib.hid fun W hh => (I_GetN A 64 c l (4 * (k : Int)) 4 W hh (by omega)).mono fun e w' h' => (⟨by rw [h'.1, HG.out], h'.2⟩ : e = .returned (.tuple #[.int .i64 (word4 l k), .int .i64 (getE l (4 * (k : Int)) 4), .bool (getB l (4 * (k : Int)) 4)]) ∧ Below W.heap.size W w')
      go_wp2_with fail
      refine (C.out _ (h.below hb (Nat.le_refl _))).mono ?_
      rintro e W1 ⟨rfl, b1⟩
      have ho1 := ((Ow.of_own HO.out).below b1 (Nat.le_refl _)).own
      have B1 := bnext hb b1
      have fr := ho1.frozenAt k
      have cl : W1.cell? ⟨w.heap.size, k, none⟩ = some (.int .i64 0) := by
        obtain ⟨b, off, hA, _, hc⟩ := (own_rd ho1).at_ (by omega)
        injection hA with hA; injection hA with h1 h2 h3; subst h1; subst h2
        have := hc k _ (schR_next l k (by omega))
        rwa [Nat.zero_add] at this
      have HP := Lib.hid (Ow.put ho1 k (.int .i64 (word4 l k)) (Nat.le_refl _) B1.size)
      clear ho1
      go_wp2_with fail
      go_roundw
      case rel =>
        have hp := HP.out
        rw [iv_set, schR_set l k (by omega) (word4 l k) (by rw [schL, if_pos hlt])] at hp
        exact ⟨k + 1, by go_num, by omega, hp.1, B1.trans hp.2⟩
      case measure => simp [intOf]; omega
    · have hlt' : ¬ (k : Int) < 16 := by omega
      obtain rfl : k = 16 := by omega
      go_wp2_with fail
      go_loopw [5] (fun i wr => ∃ (k : Nat), i = .int .i64 k ∧ 16 ≤ k ∧ k ≤ 64 ∧
          Hid (wr.ownsRow w.heap.size 3 1 (.slice (some ⟨w.heap.size, 0, none⟩) 64 64) 64 (iv (schR l k))) ∧ Below w.heap.size w wr)
        (fun i _ => 64 - (intOf i).toNat)
      case atStart => exact ⟨16, rfl, by omega, by omega, HO, hb⟩
      case round =>
        clear HO hb
        obtain ⟨k, rfl, hk1, hk2, HO, hb⟩ := hrel
        by_cases hlt : k < 64
        · have hlt' : (k : Int) < 64 := by omega
          have hc : ∀ j u, (iv (schR l k))[j]? = some u → wr.cell? ⟨w.heap.size, j, none⟩ = some u := by
            obtain ⟨b, off, hA, _, hc⟩ := (own_rd HO.out).at_ (by omega)
            injection hA with hA; injection hA with h1 h2 h3; subst h1; subst h2
            intro j u hu
            have := hc j _ hu
            rwa [Nat.zero_add] at this
          have f15 := hc (k - 15) _ (schR_at l k (k - 15) (by omega))
          have f2 := hc (k - 2) _ (schR_at l k (k - 2) (by omega))
          have f7 := hc (k - 7) _ (schR_at l k (k - 7) (by omega))
          have f16 := hc (k - 16) _ (schR_at l k (k - 16) (by omega))
          have f0 := hc k _ (schR_next l k (by omega))
          have fr := HO.out.frozenAt k
          have g15 := schL_get_wd l k (k - 15)
          have g2 := schL_get_wd l k (k - 2)
          have g7 := schL_get_wd l k (k - 7)
          have g16 := schL_get_wd l k (k - 16)
          have HM : Hid (schL l (k + 1) = schL l k ++ [mixW (schL l k) k]) := by
            show _ = _
            rw [schL, if_neg (by omega)]
          unfold mixW at HM
          generalize (schL l k).getD (k - 15) 0 = x15 at *
          generalize (schL l k).getD (k - 2) 0 = x2 at *
          generalize (schL l k).getD (k - 7) 0 = x7 at *
          generalize (schL l k).getD (k - 16) 0 = x16 at *
          have hs0 := sig0_wd g15
          have hs1 := sig1_wd g2
          have e0 : bits .xor .i64 (bits .xor .i64 (rot x15 7) (rot x15 18)) (x15 / 8) = sig0 x15 := rfl
          have e1 : bits .xor .i64 (bits .xor .i64 (rot x2 17) (rot x2 19)) (x2 / 1024) = sig1 x2 := rfl
          unfold Wd at hs0 hs1 g7 g16 g15 g2
          clear hc
          go_wp2_with fail
          have w15 : IntKind.i64.wrap ((k : Int) - 15) = (k : Int) - 15 := by rw [IntKind.wrap_i64]; omega
          have w2 : IntKind.i64.wrap ((k : Int) - 2) = (k : Int) - 2 := by rw [IntKind.wrap_i64]; omega
          have n15 : ((k : Int) - 15).toNat = k - 15 := by omega
          have n2 : ((k : Int) - 2).toNat = k - 2 := by omega
          have r15 : (15 : Int) ≤ (k : Int) := by omega
          have r2 : (2 : Int) ≤ (k : Int) := by omega
          have s15 : (k : Int) - 15 < 64 := by omega
          have s2 : (k : Int) - 2 < 64 := by omega
          go_quiet (fail)
          clear w15 w2 n15 n2 r15 r2 s15 s2
          go_wp2_with fail
          refine (I_Rot x15 7 _).mono ?_
          rintro e W1 ⟨rfl, d1, rfl⟩
          go_wp2_with fail
          refine (I_Rot x15 18 _).mono ?_
          rintro e W2 ⟨rfl, d2, rfl⟩
          go_wp2_with fail
          refine (I_Rot x2 17 _).mono ?_
          rintro e W1 ⟨rfl, d3, rfl⟩
          go_wp2_with fail
          refine (I_Rot x2 19 _).mono ?_
          rintro e W2 ⟨rfl, d4, rfl⟩
          go_wp2_with fail
          generalize hV : wr.drewN (nq + d1 + d2 + d3 + d4) = V
          have f7 : V.cell? ⟨w.heap.size, k - 7, none⟩ = some (.int .i64 x7) := by rw [← hV]; exact f7
          have f16 : V.cell? ⟨w.heap.size, k - 16, none⟩ = some (.int .i64 x16) := by rw [← hV]; exact f16
          have f0 : V.cell? ⟨w.heap.size, k, none⟩ = some (.int .i64 0) := by rw [← hV]; exact f0
          have fr : V.frozen? ⟨w.heap.size, k, none⟩ = false := by rw [← hV]; exact fr
          have HOV : Hid (V.drew.ownsRow w.heap.size 3 1 (.slice (some ⟨w.heap.size, 0, none⟩) 64 64) 64 (iv (schR l k)) ∧ Below w.heap.size w V.drew) := by
            rw [← hV]
            exact ⟨((Ow.of_own HO.out).below (Joins.below_draws wr.heap.size wr (nq + d1 + d2 + d3 + d4 + 1)) (Nat.le_refl _)).own, bdrewN hb (nq + d1 + d2 + d3 + d4 + 1)⟩
          clear hV HO hb f15 f2
          have HP := Lib.hid (fun u => Ow.put HOV.out.1 k u (Nat.le_refl _) HOV.out.2.size)
          have w7 : IntKind.i64.wrap ((k : Int) - 7) = (k : Int) - 7 := by rw [IntKind.wrap_i64]; omega
          have w16 : IntKind.i64.wrap ((k : Int) - 16) = (k : Int) - 16 := by rw [IntKind.wrap_i64]; omega
          have n7 : ((k : Int) - 7).toNat = k - 7 := by omega
          have n16 : ((k : Int) - 16).toNat = k - 16 := by omega
          have r7 : (7 : Int) ≤ (k : Int) := by omega
          have r16 : (16 : Int) ≤ (k : Int) := by omega
          have s7 : (k : Int) - 7 < 64 := by omega
          have s16 : (k : Int) - 16 < 64 := by omega
          go_region
          all_goals (
            have hp := (HP.out (.int .i64 ((x7 + x16 + sig0 x15 + sig1 x2) % 4294967296))).1
            have hp2 := (HP.out (.int .i64 ((x7 + x16 + sig0 x15 + sig1 x2) % 4294967296))).2
            rw [iv_set, schR_set l k (by omega) _ HM.out] at hp
            have hb4 := HOV.out.2.trans hp2
            go_wp2_with fail
            go_roundw)
          all_goals first
            | exact ⟨k + 1, by go_num, by omega, by omega, hp, hb4⟩
            | (simp [intOf]; omega; done)
        · have hlt' : ¬ (k : Int) < 64 := by omega
          obtain rfl : k = 64 := by omega
          go_wp2_with fail
          have HO64 := Ow.of_own HO.out
          rw [schR_full] at HO64
          exact bodyPost_ret (v := .slice (some ⟨w.heap.size, 0, none⟩) 64 64) (by simp [results, Try.results64, go_sem]) rfl ⟨_, _, _, rfl, HO64, hb⟩

theorem I_Schedule (A : Option Addr) (N c : Nat) (l : List UInt8) (w : World) (h : Rd w A N c (bv l)) :
    Calls Try.prog 64 #[.slice A N c] w fun e w' => Out 3 w (iv (schedL l)) e w' := by
  have hl : l.length = N := by have := h.len; rwa [bv_len] at this
  by_cases hN : N = 64
  · rw [schedL, if_pos (by omega)]
    exact I_Sched_yes A N c l w h hN
  · rw [schedL, if_neg (by omega)]
    have hbd := h.bnd
    have hN' : ¬ (N : Int) = 64 := by omega
    clear hl
    go_enter Try.func64, Try.ntmps64
    go_wp2_with fail
    exact bodyPost_ret (v := .slice none 0 0) (by simp [results, Try.results64, go_sem]) rfl ⟨_, _, _, rfl, Ow.of_own (World.ownsRow_nil _ _ _ _), Below.refl _ _⟩

end Go.Proofs.Ytnngiampfdjlfaa
