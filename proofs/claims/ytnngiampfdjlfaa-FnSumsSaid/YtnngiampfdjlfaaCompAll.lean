/- Contracts of compressAll and joined. -/
import Derived.Test.YtnngiampfdjlfaaHashM
import Derived.Test.YtnngiampfdjlfaaComp
namespace Go.Proofs.Ytnngiampfdjlfaa
open Go.ChangeShapes Go.WideShapes Go.ChangeAt Go.RowKit
set_option linter.unusedVariables false

def lenV : Value → Nat
  | .slice _ n _ => n
  | _ => 0

theorem Rd.take_ {w : World} {A : Option Addr} {n c m : Nat} {xs : List Value} (h : Rd w A n c xs) (hm : m ≤ n) : Rd w A m c (xs.take m) := by
  have h0 := h.len
  have h1 := h.le
  refine ⟨by rw [List.length_take]; omega, by omega, h.max, fun hp => ?_⟩
  obtain ⟨b, off, hA, hb, hc⟩ := h.at_ (by omega)
  refine ⟨b, off, hA, hb, fun j u hu => hc j u ?_⟩
  rw [List.getElem?_take] at hu
  split at hu
  · exact hu
  · cases hu
theorem Rd.drop_ {w : World} {b off n c : Nat} {xs : List Value} (h : Rd w (some ⟨b, off, none⟩) n c xs) (k : Nat) (hk : k ≤ n) :
    Rd w (if c = k then some ⟨b, off, none⟩ else some ⟨b, off + k, none⟩) (n - k) (c - k) (xs.drop k) := by
  have h1 := h.cut k (n - k) (by omega)
  have h0 := h.len
  rw [List.take_of_length_le (by rw [List.length_drop]; omega)] at h1
  simpa [Addr.add_lit] using h1
theorem bv_take (l : List UInt8) (k : Nat) : (bv l).take k = bv (l.take k) := by simp [bv]
theorem bv_drop (l : List UInt8) (k : Nat) : (bv l).drop k = bv (l.drop k) := by simp [bv]

theorem I_compressAll (A B : Option Addr) (N c M d : Nat) (hs : List Int) (l : List UInt8) (w : World) (h : Rd w A N c (iv hs)) (k : Rd w B M d (bv l)) (hN : N ≤ 8796093022208) (hM : M ≤ 70368744177664) :
    Calls Try.prog 33 #[.slice A N c, .slice B M d] w fun e w' => ∃ A' n' c' B' m' d', e = .returned (.tuple #[.slice A' n' c', .slice B' m' d']) ∧ Rd w' A' n' c' (iv (allL hs l (M / 64))) ∧ Rd w' B' m' d' (bv (l.drop (64 * (M / 64)))) ∧ Below w.heap.size w w' := by
  go_enter Try.func33, Try.ntmps33
  go_wp2_with fail
  go_loopw [0, 1] (fun v u wr => ∃ (j n' c' m' d' : Nat) (A' B' : Option Addr), v = .slice A' n' c' ∧ u = .slice B' m' d' ∧ Hid (64 * j + m' = M) ∧
      Hid (Rd wr A' n' c' (iv (allL hs l j))) ∧ Hid (Rd wr B' m' d' (bv (l.drop (64 * j)))) ∧ Below w.heap.size w wr)
    (fun _ u _ => lenV u)
  case atStart => exact ⟨0, N, c, M, d, A, B, rfl, rfl, by show _ = _; omega, h, k, Below.refl _ _⟩
  case round =>
    obtain ⟨j, n', c', m', d', A', B', rfl, rfl, HJ, HA, HB, hb⟩ := hrel
    have hbd := HB.out.bnd
    by_cases hlt : 64 ≤ m'
    · have hlt' : (64 : Int) ≤ (m' : Int) := by omega
      obtain ⟨b, off, rfl, hlb, _⟩ := HB.out.at_ (by omega)
      have hC := HB.out.take_ hlt
      have hD := Lib.hid (HB.out.drop_ 64 hlt)
      rw [bv_take] at hC
      have hn : n' ≤ 8796093022208 := by have h1 := HA.out.len; have h2 := h.len; rw [iv_len, allL_len] at h1; rw [iv_len] at h2; omega
      have C := Lib.hid (I_Compress _ _ _ _ _ _ (allL hs l j) ((l.drop (64 * j)).take 64) wr HA.out hC hn)
      clear hC
      go_wp2_with fail
      refine C.out.mono ?_
      rintro e W1 ⟨A1, n1, c1, rfl, o1, b1⟩
      have B1 := bnext hb b1
      go_wp2_with fail
      go_roundw
      case rel =>
        have hd2 := hD.out.below b1 (Nat.le_refl _)
        rw [bv_drop, List.drop_drop, show 64 * j + 64 = 64 * (j + 1) by omega] at hd2
        exact ⟨j + 1, n1, c1, m' - 64, d' - 64, A1, _, rfl, rfl, by have := HJ.out; show _ = _; omega, o1.rd, hd2, B1⟩
      case measure => simp [lenV]; omega
    · have hlt' : ¬ (64 : Int) ≤ (m' : Int) := by omega
      have HR : Hid (M / 64 = j) := by have := HJ.out; show _ = _; omega
      go_wp2_with fail
      exact bodyPost_ret (v := .tuple #[.slice A' n' c', .slice B' m' d']) (by simp [results, Try.results33, go_sem]) rfl ⟨_, _, _, _, _, _, rfl, by rw [HR.out]; exact HA.out, by rw [HR.out]; exact HB.out, hb⟩

end Go.Proofs.Ytnngiampfdjlfaa
