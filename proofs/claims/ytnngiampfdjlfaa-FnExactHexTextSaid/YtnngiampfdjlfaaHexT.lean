/- Contracts of HexText, of the reference and of the program: for every slice of bytes. -/
import Derived.Test.YtnngiampfdjlfaaHex
import Derived.Test.YtnngiampfdjlfaaLaw
import Derived.Deep.RegionLaw
namespace Go.Proofs.Ytnngiampfdjlfaa
open Go.ChangeShapes Go.WideShapes Go.ChangeAt Go.RowKit
set_option linter.unusedVariables false

def digS : ByteArray := ⟨#[48, 49, 50, 51, 52, 53, 54, 55, 56, 57, 97, 98, 99, 100, 101, 102]⟩
theorem hex_ix {P : Program} (t : TypeId) (ht : P.underlying t = some .string) (x : UInt8) (W : World) :
    (Instr.index t (.string ⟨#[48, 49, 50, 51, 52, 53, 54, 55, 56, 57, 97, 98, 99, 100, 101, 102]⟩) (.int .u8 (((x.toNat : Nat) : Int) / 16))).run P W = .ok (.int .u8 (((hexD (x.toNat / 16)).toNat : Nat) : Int)) W ∧
    (Instr.index t (.string ⟨#[48, 49, 50, 51, 52, 53, 54, 55, 56, 57, 97, 98, 99, 100, 101, 102]⟩) (.int .u8 (((x.toNat : Nat) : Int) % 16))).run P W = .ok (.int .u8 (((hexD (x.toNat % 16)).toNat : Nat) : Int)) W := by
  have h := x.toNat_lt
  have e1 : ((x.toNat : Nat) : Int) / 16 = ((x.toNat / 16 : Nat) : Int) := by omega
  have e2 : ((x.toNat : Nat) : Int) % 16 = ((x.toNat % 16 : Nat) : Int) := by omega
  rw [e1, e2]
  exact ⟨str_ix t ht _ .u8 (x.toNat / 16) (by show _ < 16; omega) W, str_ix t ht _ .u8 (x.toNat % 16) (by show _ < 16; omega) W⟩
theorem rd_pair (W : World) (t : TypeId) (a b : UInt8) : Rd (W.alloc (.cells #[.int .u8 ((a.toNat : Nat) : Int), .int .u8 ((b.toNat : Nat) : Int)] t)) (some ⟨W.heap.size, 0, none⟩) 2 2 (bv [a, b]) := rd_two W t _ _
theorem and15 (x : UInt8) : bits .and .u8 ((x.toNat : Nat) : Int) 15 = ((x.toNat : Nat) : Int) % 16 := by
  have h := x.toNat_lt
  have : ∀ n : Nat, n < 256 → bits .and .u8 ((n : Nat) : Int) 15 = (n : Int) % 16 := by decide +kernel
  exact this _ h

set_option maxHeartbeats 1000000 in
theorem I_HexText (A : Option Addr) (N c : Nat) (l : List UInt8) (w : World) (h : Rd w A N c (bv l)) (hN : N ≤ 1048576) :
    Calls Try.prog 8 #[.slice A N c] w fun e w' => e = .returned (.string ⟨(hexT l).toArray⟩) ∧ Below w.heap.size w w' := by
  have hl : l.length = N := by have := h.len; rwa [bv_len] at this
  have HL := Lib.hid hl
  have hbd := h.bnd
  clear hl
  go_enter Try.func8, Try.ntmps8
  go_wp2_with fail
  go_loopw [3, 9] (fun v i wr => ∃ (k m c' : Nat) (A' : Option Addr), v = .slice A' m c' ∧ i = .int .i64 k ∧ k ≤ N ∧ m ≤ 2 * k ∧
      Hid (wr.ownsRow w.heap.size 5 1 (.slice A' m c') m (bv (hexT (l.take k)))) ∧ Below w.heap.size w wr)
    (fun _ i _ => N - (intOf i).toNat)
  case atStart => exact ⟨0, 0, 0, _, rfl, rfl, by omega, by omega, own_empty w _, balloc (Below.refl _ _) _⟩
  case round =>
    obtain ⟨k, m, c', A', rfl, rfl, hk, hm, HO, hb⟩ := hrel
    by_cases hlt : k < N
    · have hlt' : (k : Int) < (N : Int) := by omega
      obtain ⟨b, off, rfl, hlb, hcl⟩ := h.at_ (by omega)
      have hkl : k < l.length := by have := HL.out; omega
      have fc := (bcell hb b (off + k) hlb).trans (hcl k _ (bv_get hkl))
      have HF := Lib.hid (hexT_take l k hkl)
      generalize l[k] = y at *
      have i1 := fun W => (hex_ix (P := Try.prog) 9 Try.underlying9 y W).1
      have i2 := fun W => (hex_ix (P := Try.prog) 9 Try.underlying9 y W).2
      have yb := byte_lt y
      have g1 : IntKind.u8.wrap (((y.toNat : Nat) : Int) / 16) = ((y.toNat : Nat) : Int) / 16 := by rw [IntKind.wrap_u8]; omega
      have g2 : IntKind.u8.wrap (((y.toNat : Nat) : Int) % 16) = ((y.toNat : Nat) : Int) % 16 := by rw [IntKind.wrap_u8]; omega
      have g3 : ((y.toNat : Nat) : Int).tmod 16 = ((y.toNat : Nat) : Int) % 16 := Int.tmod_eq_emod_of_nonneg (by omega)
      generalize hexD (y.toNat / 16) = a at *
      generalize hexD (y.toNat % 16) = d at *
      have HOV : Hid (∀ o, Hid ((wr.drew.alloc o).ownsRow w.heap.size 5 1 (.slice A' m c') m (bv (hexT (l.take k))))) := fun o => ((Ow.of_own HO.out).below (bdrew (Below.refl wr.heap.size wr)) (Nat.le_refl _)).own.alloc o
      have HBV : Hid (∀ o, w.heap.size ≤ (wr.drew.alloc o).heap.size ∧ Below w.heap.size w (wr.drew.alloc o)) := fun o => ⟨(balloc (bdrew hb) o).size, balloc (bdrew hb) o⟩
      have hr1 := rd_pair wr.drew 5 a d
      have q5 : m + 2 ≤ 70368744177664 := by omega
      clear hcl hkl
      go_wp2_with fail
      go_region_law (refine step_append_bytes _ rfl _ _ rfl w.heap.size _ _ _ _ (by simp [Act.eval]) (HOV.out _) _ _ _ [a, d] (by simp [Act.eval]) hr1 q5 (HBV.out _).1 ?_; intro A3 c3 W3 HO3 hb3)
      all_goals (
        have ho3 := HO3.out
        rw [← HF.out] at ho3
        have b4 := (HBV.out _).2.trans hb3
        clear HO3 HOV HBV hb3
        go_wp2_with fail
        go_roundw)
      all_goals first
        | exact ⟨k + 1, m + 2, c3, A3, rfl, by go_num, by omega, by omega, ho3, b4⟩
        | (simp [intOf]; omega)
    · have hlt' : ¬ (k : Int) < (N : Int) := by omega
      have ho8 := HO.out
      rw [show l.take k = l from List.take_of_length_le (by have := HL.out; omega)] at ho8
      have hcv := conv_string (P := Try.prog) 22 9 5 Try.underlying22 Try.underlying5 Try.underlying9 A' m c' (hexT l) wr (own_rd ho8)
      go_wp2_with fail
      go_ret
      exact ⟨rfl, hb⟩

set_option maxHeartbeats 1000000 in
theorem S_HexText (A : Option Addr) (N c : Nat) (l : List UInt8) (w : World) (h : Rd w A N c (bv l)) (hN : N ≤ 1048576) :
    Calls Try.prog 6 #[.slice A N c] w fun e w' => e = .returned (.string ⟨(hexT l).toArray⟩) ∧ Below w.heap.size w w' := by
  have hl : l.length = N := by have := h.len; rwa [bv_len] at this
  have HL := Lib.hid hl
  have hbd := h.bnd
  clear hl
  go_enter Try.func6, Try.ntmps6
  go_wp2_with fail
  go_loopw [3, 4] (fun v i wr => ∃ (k m c' : Nat) (A' : Option Addr), v = .slice A' m c' ∧ i = .int .i64 k ∧ k ≤ N ∧ m ≤ 2 * k ∧
      Hid (wr.ownsRow w.heap.size 5 1 (.slice A' m c') m (bv (hexT (l.take k)))) ∧ Below w.heap.size w wr)
    (fun _ i _ => N - (intOf i).toNat)
  case atStart => exact ⟨0, 0, 0, _, rfl, rfl, by omega, by omega, own_empty w _, balloc (Below.refl _ _) _⟩
  case round =>
    obtain ⟨k, m, c', A', rfl, rfl, hk, hm, HO, hb⟩ := hrel
    by_cases hlt : k < N
    · have hlt' : (k : Int) < (N : Int) := by omega
      obtain ⟨b, off, rfl, hlb, hcl⟩ := h.at_ (by omega)
      have hkl : k < l.length := by have := HL.out; omega
      have fc := (bcell hb b (off + k) hlb).trans (hcl k _ (bv_get hkl))
      have HF := Lib.hid (hexT_take l k hkl)
      generalize l[k] = y at *
      have i1 := fun W => (hex_ix (P := Try.prog) 9 Try.underlying9 y W).1
      have i2 := fun W => (hex_ix (P := Try.prog) 9 Try.underlying9 y W).2
      have i3 := and15 y
      have yb := byte_lt y
      have g1 : IntKind.u8.wrap (((y.toNat : Nat) : Int) / 16) = ((y.toNat : Nat) : Int) / 16 := by rw [IntKind.wrap_u8]; omega
      have g2 : IntKind.u8.wrap (((y.toNat : Nat) : Int) % 16) = ((y.toNat : Nat) : Int) % 16 := by rw [IntKind.wrap_u8]; omega
      have g3 : ((y.toNat : Nat) : Int).tmod 16 = ((y.toNat : Nat) : Int) % 16 := Int.tmod_eq_emod_of_nonneg (by omega)
      generalize hexD (y.toNat / 16) = a at *
      generalize hexD (y.toNat % 16) = d at *
      have HOV : Hid (∀ o, Hid ((wr.drew.alloc o).ownsRow w.heap.size 5 1 (.slice A' m c') m (bv (hexT (l.take k))))) := fun o => ((Ow.of_own HO.out).below (bdrew (Below.refl wr.heap.size wr)) (Nat.le_refl _)).own.alloc o
      have HBV : Hid (∀ o, w.heap.size ≤ (wr.drew.alloc o).heap.size ∧ Below w.heap.size w (wr.drew.alloc o)) := fun o => ⟨(balloc (bdrew hb) o).size, balloc (bdrew hb) o⟩
      have hr1 := rd_pair wr.drew 5 a d
      have q5 : m + 2 ≤ 70368744177664 := by omega
      clear hcl hkl
      go_wp2_with fail
      go_region_law (refine step_append_bytes _ rfl _ _ rfl w.heap.size _ _ _ _ (by simp [Act.eval]) (HOV.out _) _ _ _ [a, d] (by simp [Act.eval]) hr1 q5 (HBV.out _).1 ?_; intro A3 c3 W3 HO3 hb3)
      all_goals (
        have ho3 := HO3.out
        rw [← HF.out] at ho3
        have b4 := (HBV.out _).2.trans hb3
        clear HO3 HOV HBV hb3
        go_wp2_with fail
        go_roundw)
      all_goals first
        | exact ⟨k + 1, m + 2, c3, A3, rfl, by go_num, by omega, by omega, ho3, b4⟩
        | (simp [intOf]; omega)
    · have hlt' : ¬ (k : Int) < (N : Int) := by omega
      have ho8 := HO.out
      rw [show l.take k = l from List.take_of_length_le (by have := HL.out; omega)] at ho8
      have hcv := conv_string (P := Try.prog) 22 9 5 Try.underlying22 Try.underlying5 Try.underlying9 A' m c' (hexT l) wr (own_rd ho8)
      go_wp2_with fail
      go_ret
      exact ⟨rfl, hb⟩

end Go.Proofs.Ytnngiampfdjlfaa
