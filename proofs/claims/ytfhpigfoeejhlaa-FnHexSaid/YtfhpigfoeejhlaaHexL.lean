/- Bytes are parsed from their digits, and parsed digits are those of their bytes. No program in sight. -/
import Derived.Test.YtfhpigfoeejhlaaHexM
namespace Go.Proofs.Ytfhpigfoeejhlaa
open Go.RowKit

theorem hexT_get (b : List UInt8) (k : Nat) (h : k < b.length) : (hexT b).getD (2 * k) 0 = hexD (b[k].toNat / 16) ∧ (hexT b).getD (2 * k + 1) 0 = hexD (b[k].toNat % 16) := by
  induction b generalizing k with
  | nil => simp at h
  | cons x b ih =>
    cases k with
    | zero => exact ⟨rfl, rfl⟩
    | succ k =>
      have := ih k (by simpa using h)
      rw [show 2 * (k + 1) = 2 * k + 1 + 1 by omega]
      simpa [hexT] using this
theorem pairs_hexT (b : List UInt8) (k : Nat) (h : k ≤ b.length) : pairs (hexT b) k = some (b.take k) := by
  induction k with
  | zero => simp [pairs]
  | succ k ih =>
    have hk : k < b.length := by omega
    have hx := b[k].toNat_lt
    obtain ⟨e1, e2⟩ := hexT_get b k hk
    have d1 := digV_hexD (b[k].toNat / 16) (by omega)
    have d2 := digV_hexD (b[k].toNat % 16) (by omega)
    rw [pairs, ih (by omega)]
    simp only [e1, e2, d1, d2]
    rw [if_pos ⟨by omega, by omega⟩, List.take_succ_eq_append_getElem hk]
    have : (16 * ((b[k].toNat / 16 : Nat) : Int) + ((b[k].toNat % 16 : Nat) : Int)).toNat = b[k].toNat := by omega
    rw [this]
    simp
theorem parse_hexT (b : List UInt8) (h : b.length ≤ 200) : parseL (hexT b) = b ∧ parseB (hexT b) = true := by
  have hl := hexT_len b
  have ho : hexOk (hexT b) := ⟨by omega, by omega⟩
  have hp := pairs_hexT b b.length (Nat.le_refl _)
  rw [List.take_length] at hp
  have e : (hexT b).length / 2 = b.length := by omega
  exact ⟨by rw [parseL, if_pos ho, e, hp]; rfl, by rw [parseB, e, hp, decide_eq_true ho]; rfl⟩
theorem hexT_pairs (s l : List UInt8) (k : Nat) (hk : 2 * k ≤ s.length) (h : pairs s k = some l) : hexT l = s.take (2 * k) := by
  induction k generalizing l with
  | zero =>
    injection h with h
    subst h
    rfl
  | succ k ih =>
    unfold pairs at h
    split at h
    · cases h
    · rename_i l' hl
      split at h
      · rename_i hd
        injection h with h
        subst h
        have v1 := digV_le (s.getD (2 * k) 0)
        have v2 := digV_le (s.getD (2 * k + 1) 0)
        have c1 := hexD_digV _ hd.1
        have c2 := hexD_digV _ hd.2
        have e : (UInt8.ofNat (16 * digV (s.getD (2 * k) 0) + digV (s.getD (2 * k + 1) 0)).toNat).toNat = 16 * (digV (s.getD (2 * k) 0)).toNat + (digV (s.getD (2 * k + 1) 0)).toNat := by
          rw [UInt8.toNat_ofNat']
          omega
        rw [hexT_app, ih l' (by omega) hl]
        simp only [hexT, e]
        rw [show (16 * (digV (s.getD (2 * k) 0)).toNat + (digV (s.getD (2 * k + 1) 0)).toNat) / 16 = (digV (s.getD (2 * k) 0)).toNat by omega,
          show (16 * (digV (s.getD (2 * k) 0)).toNat + (digV (s.getD (2 * k + 1) 0)).toNat) % 16 = (digV (s.getD (2 * k + 1) 0)).toNat by omega, c1, c2]
        rw [show 2 * (k + 1) = 2 * k + 1 + 1 by omega, List.take_succ_eq_append_getElem (by omega), List.take_succ_eq_append_getElem (by omega)]
        have g1 : s.getD (2 * k) 0 = s[2 * k]'(by omega) := by rw [List.getD, List.getElem?_eq_getElem (by omega)]; rfl
        have g2 : s.getD (2 * k + 1) 0 = s[2 * k + 1]'(by omega) := by rw [List.getD, List.getElem?_eq_getElem (by omega)]; rfl
        rw [g1, g2, List.append_assoc]
        rfl
      · cases h
theorem hexT_parse (s : List UInt8) (h : parseB s = true) : hexT (parseL s) = s := by
  unfold parseB at h
  rw [Bool.and_eq_true, decide_eq_true_iff] at h
  obtain ⟨ho, h2⟩ := h
  obtain ⟨l, hl⟩ := Option.isSome_iff_exists.1 h2
  have h3 := hexT_pairs s l (s.length / 2) (by omega) hl
  have h4 := ho.2
  rw [parseL, if_pos ho, hl]
  show hexT l = s
  rw [h3, List.take_of_length_le (by omega)]

end Go.Proofs.Ytfhpigfoeejhlaa
