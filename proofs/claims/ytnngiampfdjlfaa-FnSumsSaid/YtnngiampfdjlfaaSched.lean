/- Contracts of Schedule (reference and program): the 64 words of the message schedule of a block; for every slice of bytes. -/
import Derived.Test.YtnngiampfdjlfaaGetN
import Derived.Test.YtnngiampfdjlfaaShaM
import Derived.Test.YtnngiampfdjlfaaStep
namespace Go.Proofs.Ytnngiampfdjlfaa
open Go.ChangeShapes Go.WideShapes Go.ChangeAt Go.RowKit
set_option linter.unusedVariables false

theorem getN_word (l : List UInt8) (k : Nat) (h : 4 * k + 4 ≤ l.length) : getN l (4 * (k : Int)) 4 = word4 l k := by
  have hok : getOk l (4 * (k : Int)) 4 := ⟨⟨by decide, by decide⟩, by omega, by omega⟩
  rw [getN, if_pos hok]
  have e1 : (4 * (k : Int)).toNat = 4 * k := by omega
  rw [e1]
  have e : (l.drop (4 * k)).take (4 : Int).toNat = [l[4 * k]'(by omega), l[4 * k + 1]'(by omega), l[4 * k + 2]'(by omega), l[4 * k + 3]'(by omega)] := by
    show (l.drop (4 * k)).take 4 = _
    rw [List.drop_eq_getElem_cons (show 4 * k < l.length by omega), List.drop_eq_getElem_cons (show 4 * k + 1 < l.length by omega), List.drop_eq_getElem_cons (show 4 * k + 2 < l.length by omega), List.drop_eq_getElem_cons (show 4 * k + 3 < l.length by omega)]
    rfl
  rw [e]
  simp only [numN, word4, List.getD, List.getElem?_eq_getElem (show 4 * k < l.length by omega), List.getElem?_eq_getElem (show 4 * k + 1 < l.length by omega), List.getElem?_eq_getElem (show 4 * k + 2 < l.length by omega), List.getElem?_eq_getElem (show 4 * k + 3 < l.length by omega), Option.getD_some]
  simp

theorem sched_mix (a b c d : Int) : IntKind.i64.wrap (IntKind.i64.wrap (IntKind.i64.wrap (a + b) + c) + d) % 4294967296 = (a + b + c + d) % 4294967296 := by
  simp only [IntKind.wrap_i64]
  omega

set_option maxHeartbeats 1000000 in
theorem S_Sched_yes (A : Option Addr) (N c : Nat) (l : List UInt8) (w : World) (h : Rd w A N c (bv l)) (hN : N = 64) :
    Calls Try.prog 54 #[.slice A N c] w fun e w' => Out 3 w (iv (schL l 64)) e w' := by
  subst hN
  have hl : l.length = 64 := by have := h.len; rwa [bv_len] at this
  have HL := Lib.hid hl
  have hbd := h.bnd
  clear hl
  go_enter Try.func54, Try.ntmps54
  go_wp2_with fail
  go_loopw [3, 4] (fun v i wr => ∃ (k : Nat) (A' : Option Addr) (m c' : Nat), v = .slice A' m c' ∧ i = .int .i64 k ∧ k ≤ 16 ∧ m ≤ k ∧ k ≤ m ∧
      Hid (wr.ownsRow w.heap.size 3 1 (.slice A' m c') m (iv (schL l k))) ∧ Below w.heap.size w wr)
    (fun _ i _ => 16 - (intOf i).toNat)
  case atStart => exact ⟨0, _, 0, _, rfl, rfl, by omega, by omega, by omega, own_empty w _, balloc (Below.refl _ _) _⟩
  case round =>
    obtain ⟨k, A1, m, c1, rfl, rfl, hk, hm1, hm2, HO, hb⟩ := hrel
    by_cases hlt : k < 16
    · have hlt' : (k : Int) < 16 := by omega
      have HG := Lib.hid (getN_word l k (by rw [HL.out]; omega))
      have C := Lib.hid fun W hh => (below_eq (S_GetN A 64 c l (4 * (k : Int)) 4 W hh)).mono fun e w' h' => (⟨by rw [h'.1, HG.out], h'.2⟩ : e = .returned (.tuple #[.int .i64 (word4 l k), .int .i64 (getE l (4 * (k : Int)) 4), .bool (getB l (4 * (k : Int)) 4)]) ∧ Below W.heap.size W w')
      go_wp2_with fail
      refine (C.out _ (h.below hb (Nat.le_refl _))).mono ?_
      rintro e W1 ⟨rfl, b1⟩
      have ho1 := (Ow.of_own HO.out).below b1 (Nat.le_refl _)
      have HOA := Lib.hid (ho1.own.alloc (.cells #[.int .i64 (word4 l k)] 3))
      have B1 := bnext hb b1
      have q5 : m + 1 ≤ 70368744177664 / 8 := by omega
      have q6 : ∀ o, w.heap.size ≤ (W1.alloc o).heap.size := fun o => by have := B1.size; simp; omega
      go_wp2_with (at_builtin; refine append_ints _ rfl _ _ rfl w.heap.size _ _ _ (schL l k) rfl HOA _ _ _ [word4 l k] rfl (rd_one W1 _ _) q5 (q6 _) ?_; intro A3 c3 W3 HO3 hb3)
      go_roundw
      case rel =>
        have ho3 := HO3.out
        rw [show schL l k ++ [word4 l k] = schL l (k + 1) by rw [schL, if_pos hlt]] at ho3
        exact ⟨k + 1, A3, m + 1, c3, rfl, by go_num, by omega, by omega, by omega, ho3, (balloc B1 _).trans hb3⟩
      case measure => simp [intOf]; omega
    · have hlt' : ¬ (k : Int) < 16 := by omega
      obtain rfl : k = 16 := by omega
      go_wp2_with fail
      go_loopw [3, 8] (fun v i wr => ∃ (k : Nat) (A' : Option Addr) (m c' : Nat), v = .slice A' m c' ∧ i = .int .i64 k ∧ 16 ≤ k ∧ k ≤ 64 ∧ m ≤ k ∧ k ≤ m ∧
          Hid (wr.ownsRow w.heap.size 3 1 (.slice A' m c') m (iv (schL l k))) ∧ Below w.heap.size w wr)
        (fun _ i _ => 64 - (intOf i).toNat)
      case atStart => exact ⟨16, _, _, _, rfl, rfl, by omega, by omega, hm1, hm2, HO, hb⟩
      case round =>
        clear hm1 hm2 HO hb
        obtain ⟨k, A2, m, c2, rfl, rfl, hk1, hk2, hm1, hm2, HO, hb⟩ := hrel
        by_cases hlt : k < 64
        · have hlt' : (k : Int) < 64 := by omega
          have hr := own_rd HO.out
          obtain ⟨b, off, rfl, hlb, hcl⟩ := hr.at_ (by omega)
          have f15 := hcl (k - 15) _ (by rw [iv, List.getElem?_map, schL_at l k (k - 15) (by omega)]; rfl)
          have f2 := hcl (k - 2) _ (by rw [iv, List.getElem?_map, schL_at l k (k - 2) (by omega)]; rfl)
          have f7 := hcl (k - 7) _ (by rw [iv, List.getElem?_map, schL_at l k (k - 7) (by omega)]; rfl)
          have f16 := hcl (k - 16) _ (by rw [iv, List.getElem?_map, schL_at l k (k - 16) (by omega)]; rfl)
          have g15 := schL_get_wd l k (k - 15)
          have g2 := schL_get_wd l k (k - 2)
          have g7 := schL_get_wd l k (k - 7)
          have g16 := schL_get_wd l k (k - 16)
          have HM : Hid (schL l (k + 1) = schL l k ++ [mixW (schL l k) k]) := by
            show _ = _
            rw [schL, if_neg (by omega)]
          unfold mixW at HM
          generalize (schL l k).getD (k - 15) 0 = x15 at *
          generalize (schL l k).getD (k - 2) 0 = x2 at *
          generalize (schL l k).getD (k - 7) 0 = x7 at *
          generalize (schL l k).getD (k - 16) 0 = x16 at *
          have hs0 := sig0_wd g15
          have hs1 := sig1_wd g2
          have e0 : bits .xor .i64 (bits .xor .i64 (rot x15 7) (rot x15 18)) (x15 / 8) = sig0 x15 := rfl
          have e1 : bits .xor .i64 (bits .xor .i64 (rot x2 17) (rot x2 19)) (x2 / 1024) = sig1 x2 := rfl
          unfold Wd at hs0 hs1 g7 g16 g15 g2
          clear hcl hr
          have hmb := (own_rd HO.out).bnd
          go_wp2_with fail
          refine (S_Rot x15 7 _).mono ?_
          rintro e W1 ⟨rfl, d1, rfl⟩
          go_wp2_with fail
          refine (S_Rot x15 18 _).mono ?_
          rintro e W2 ⟨rfl, d2, rfl⟩
          go_wp2_with fail
          refine (S_Rot x2 17 _).mono ?_
          rintro e W1 ⟨rfl, d3, rfl⟩
          go_wp2_with fail
          refine (S_Rot x2 19 _).mono ?_
          rintro e W2 ⟨rfl, d4, rfl⟩
          go_wp2_with fail
          clear hs0 hs1
          generalize hV : wr.drewN (d1 + d2 + d3 + d4) = V
          have f7 : V.cell? ⟨b, off + (k - 7), none⟩ = some (.int .i64 x7) := by rw [← hV]; exact f7
          have f16 : V.cell? ⟨b, off + (k - 16), none⟩ = some (.int .i64 x16) := by rw [← hV]; exact f16
          have HOV : Hid (∀ o, Hid ((V.drew.alloc o).ownsRow w.heap.size 3 1 (.slice (some ⟨b, off, none⟩) m c2) m (iv (schL l k)))) := by
            rw [← hV]
            exact fun o => ((Ow.of_own HO.out).below (Joins.below_draws wr.heap.size wr (d1 + d2 + d3 + d4 + 1)) (Nat.le_refl _)).own.alloc o
          have HBV : Hid (∀ o, w.heap.size ≤ (V.drew.alloc o).heap.size ∧ Below w.heap.size w (V.drew.alloc o)) := by
            rw [← hV]
            exact fun o => ⟨by have := hb.size; simp [World.alloc, World.drew, World.drewN]; omega, balloc (bdrewN hb (d1 + d2 + d3 + d4 + 1)) o⟩
          clear hV
          have q5 : m + 1 ≤ 70368744177664 / 8 := by omega
          have w7 : IntKind.i64.wrap ((k : Int) - 7) = (k : Int) - 7 := by rw [IntKind.wrap_i64]; omega
          have w16 : IntKind.i64.wrap ((k : Int) - 16) = (k : Int) - 16 := by rw [IntKind.wrap_i64]; omega
          have n7 : ((k : Int) - 7).toNat = k - 7 := by omega
          have n16 : ((k : Int) - 16).toNat = k - 16 := by omega
          have r7 : (7 : Int) ≤ (k : Int) := by omega
          have r16 : (16 : Int) ≤ (k : Int) := by omega
          have s7 : (k : Int) - 7 < (m : Int) := by omega
          have s16 : (k : Int) - 16 < (m : Int) := by omega
          go_region_law (refine step_append_ints _ rfl _ _ rfl w.heap.size _ _ _ (schL l k) (by simp [Act.eval]) (HOV.out _) _ _ _ [_] (by simp [Act.eval]) (rd_one V.drew _ _) q5 (HBV.out _).1 ?_; intro A3 c3 W3 HO3 hb3)
          all_goals (
            have ho3 := HO3.out
            rw [sched_mix x7 x16 (sig0 x15) (sig1 x2), ← HM.out] at ho3
            clear HO3 HM HOV
            have hb4 := (HBV.out _).2.trans hb3
            clear HBV hb3
            go_wp2_with fail
            go_roundw)
          all_goals first
            | exact ⟨k + 1, A3, m + 1, c3, rfl, by go_num, by omega, by omega, by omega, by omega, ho3, hb4⟩
            | (simp [intOf]; omega)
        · have hlt' : ¬ (k : Int) < 64 := by omega
          obtain rfl : k = 64 := by omega
          go_wp2_with fail
          obtain rfl : m = 64 := by omega
          have HO64 := Ow.of_own HO.out
          exact bodyPost_ret (v := .slice A2 64 c2) (by simp [results, Try.results54, go_sem]) rfl ⟨_, _, _, rfl, HO64, hb⟩

theorem S_Schedule (A : Option Addr) (N c : Nat) (l : List UInt8) (w : World) (h : Rd w A N c (bv l)) :
    Calls Try.prog 54 #[.slice A N c] w fun e w' => Out 3 w (iv (schedL l)) e w' := by
  have hl : l.length = N := by have := h.len; rwa [bv_len] at this
  by_cases hN : N = 64
  · rw [schedL, if_pos (by omega)]
    exact S_Sched_yes A N c l w h hN
  · rw [schedL, if_neg (by omega)]
    have hbd := h.bnd
    have hN' : ¬ (N : Int) = 64 := by omega
    clear hl
    go_enter Try.func54, Try.ntmps54
    go_wp2_with fail
    exact bodyPost_ret (v := .slice (some ⟨w.heap.size, 0, none⟩) 0 0) (by simp [results, Try.results54, go_sem]) rfl (out_lit w _ #[] 0 rfl (by omega))

end Go.Proofs.Ytnngiampfdjlfaa
