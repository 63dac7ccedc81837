/- Contracts of l2Out and wordBytes: eight words as 32 bytes. -/
import Derived.Test.YtnngiampfdjlfaaPutN
import Derived.Test.YtnngiampfdjlfaaCompS
namespace Go.Proofs.Ytnngiampfdjlfaa
open Go.ChangeShapes Go.WideShapes Go.ChangeAt Go.RowKit
set_option linter.unusedVariables false

/-- The first k words as bytes. -/
def outR (h : List Int) : Nat → List UInt8
  | 0 => []
  | k + 1 => outR h k ++ putL (h.getD k 0) 4
theorem outR_len (h : List Int) (k : Nat) : (outR h k).length = 4 * k := by
  induction k with
  | zero => rfl
  | succ k ih => rw [outR, List.length_append, ih, putL_len]; omega
theorem putN_4 (l : List UInt8) (x : Int) : putN l x 4 = l ++ putL x 4 := by
  rw [putN, if_pos (by omega)]
  rfl
theorem outR_step (h : List Int) (k : Nat) (x : Int) (hx : h.getD k 0 = x) : putN (outR h k) x 4 = outR h (k + 1) := by
  rw [putN_4, outR, hx]

theorem S_Out (A : Option Addr) (N c : Nat) (hs : List Int) (w : World) (h : Rd w A N c (iv hs)) (hN : N = 8) :
    Calls Try.prog 46 #[.slice A N c] w fun e w' => Out 5 w (bv (outR hs 8)) e w' := by
  subst hN
  have hbd := h.bnd
  obtain ⟨ga, oa, rfl, hla, fa⟩ := rd_get h (by omega)
  have FA := Lib.hid fa
  clear fa
  go_enter Try.func46, Try.ntmps46
  go_wp2_with fail
  go_loopw [3, 4] (fun v i wr => ∃ (k m c' : Nat) (A' : Option Addr), v = .slice A' m c' ∧ i = .int .i64 k ∧ k ≤ 8 ∧ m = 4 * k ∧
      Hid (wr.ownsRow w.heap.size 5 1 (.slice A' m c') m (bv (outR hs k))) ∧ Below w.heap.size w wr)
    (fun _ i _ => 8 - (intOf i).toNat)
  case atStart => exact ⟨0, 0, 0, _, rfl, rfl, by omega, rfl, own_empty w _, balloc (Below.refl _ _) _⟩
  case round =>
    obtain ⟨k, m, c', A', rfl, rfl, hk, hm, HO, hb⟩ := hrel
    have hmb := (own_rd HO.out).bnd
    by_cases hlt : k < 8
    · have hlt' : (k : Int) < 8 := by omega
      have fx : wr.cell? ⟨ga, oa + k, none⟩ = some (.int .i64 (hs.getD k 0)) := (bcell hb ga (oa + k) hla).trans (FA.out k hlt)
      have HX := Lib.hid (outR_step hs k (hs.getD k 0) rfl)
      generalize hs.getD k 0 = x at fx HX
      have C := Lib.hid ((S_PutN A' m c' (outR hs k) x 4 wr (own_rd HO.out) (by omega)).mono fun e w' h' => (show Out 5 wr (bv (outR hs (k + 1))) e w' by rwa [HX.out] at h'))
      have HM := Lib.hid hm
      clear hm
      go_wp2_with fail
      refine C.out.mono ?_
      rintro e W1 ⟨A1, m1, c1, rfl, o1, b1⟩
      have hm1 : Hid (m1 = 4 * (k + 1)) := by show _ = _; have := o1.rd.len; rw [bv_len, outR_len] at this; omega
      have B1 := bnext hb b1
      have o2 := o1.less hb.size
      go_wp2_with fail
      go_roundw
      case rel => exact ⟨k + 1, m1, c1, A1, rfl, by go_num, by omega, hm1.out, o2.own, B1⟩
      case measure => simp [intOf]; omega
    · have hlt' : ¬ (k : Int) < 8 := by omega
      obtain rfl : k = 8 := by omega
      obtain rfl : m = 32 := by omega
      have HO8 := Ow.of_own HO.out
      go_wp2_with fail
      exact bodyPost_ret (v := .slice A' 32 c') (by simp [results, Try.results46, go_sem]) rfl ⟨_, _, _, rfl, HO8, hb⟩

theorem I_Out (A : Option Addr) (N c : Nat) (hs : List Int) (w : World) (h : Rd w A N c (iv hs)) (hN : N = 8) :
    Calls Try.prog 50 #[.slice A N c] w fun e w' => Out 5 w (bv (outR hs 8)) e w' := by
  subst hN
  have hbd := h.bnd
  obtain ⟨ga, oa, rfl, hla, fa⟩ := rd_get h (by omega)
  have FA := Lib.hid fa
  clear fa
  go_enter Try.func50, Try.ntmps50
  go_wp2_with fail
  go_loopw [3, 9] (fun v i wr => ∃ (k m c' : Nat) (A' : Option Addr), v = .slice A' m c' ∧ i = .int .i64 k ∧ k ≤ 8 ∧ m = 4 * k ∧
      Hid (wr.ownsRow w.heap.size 5 1 (.slice A' m c') m (bv (outR hs k))) ∧ Below w.heap.size w wr)
    (fun _ i _ => 8 - (intOf i).toNat)
  case atStart => exact ⟨0, 0, 0, _, rfl, rfl, by omega, rfl, own_empty w _, balloc (Below.refl _ _) _⟩
  case round =>
    obtain ⟨k, m, c', A', rfl, rfl, hk, hm, HO, hb⟩ := hrel
    have hmb := (own_rd HO.out).bnd
    by_cases hlt : k < 8
    · have hlt' : (k : Int) < 8 := by omega
      have fx : wr.cell? ⟨ga, oa + k, none⟩ = some (.int .i64 (hs.getD k 0)) := (bcell hb ga (oa + k) hla).trans (FA.out k hlt)
      have HX := Lib.hid (outR_step hs k (hs.getD k 0) rfl)
      generalize hs.getD k 0 = x at fx HX
      have C := Lib.hid ((I_PutN A' m c' (outR hs k) x 4 wr (own_rd HO.out) (by omega)).mono fun e w' h' => (show Out 5 wr (bv (outR hs (k + 1))) e w' by rwa [HX.out] at h'))
      have HM := Lib.hid hm
      clear hm
      go_wp2_with fail
      refine C.out.mono ?_
      rintro e W1 ⟨A1, m1, c1, rfl, o1, b1⟩
      have hm1 : Hid (m1 = 4 * (k + 1)) := by show _ = _; have := o1.rd.len; rw [bv_len, outR_len] at this; omega
      have B1 := bnext hb b1
      have o2 := o1.less hb.size
      go_wp2_with fail
      go_roundw
      case rel => exact ⟨k + 1, m1, c1, A1, rfl, by go_num, by omega, hm1.out, o2.own, B1⟩
      case measure => simp [intOf]; omega
    · have hlt' : ¬ (k : Int) < 8 := by omega
      obtain rfl : k = 8 := by omega
      obtain rfl : m = 32 := by omega
      have HO8 := Ow.of_own HO.out
      go_wp2_with fail
      exact bodyPost_ret (v := .slice A' 32 c') (by simp [results, Try.results50, go_sem]) rfl ⟨_, _, _, rfl, HO8, hb⟩

end Go.Proofs.Ytnngiampfdjlfaa
