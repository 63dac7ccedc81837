/- An address is decoded from its bytes; cut, they hold none. Plain laws; no program in sight. -/
import Derived.Test.YtkcmgeoaipjhhaaDoorNumM
import Derived.Test.YtkcmgeoaipjhhaaDoorPAddr
import Derived.Test.YtkcmgeoaipjhhaaDoorTextA
namespace Go.Proofs.YtkcmgeoaipjhhaaDoor
open Go.RowKit
set_option linter.unusedVariables false

theorem putAd_len6 (l : List UInt8) (a b : Int) (h : okAd a b = true) : (putAd l a b).length = l.length + 6 := by
  rw [putAd, if_pos h, putN, if_pos (by omega), List.length_append, putL_len, putN, if_pos (by omega), List.length_append, putL_len]
  show l.length + 4 + 2 = _
  omega
theorem getN_first (l : List UInt8) (a b : Int) : getOk (putN (putN l a 4) b 2) l.length 4 ∧ getN (putN (putN l a 4) b 2) l.length 4 = a % 2 ^ 32 := by
  have h1 := getN_put l a 4 (by omega)
  have e1 : putN l a 4 = l ++ putL a 4 := by rw [putN, if_pos (by omega)]; rfl
  have e2 : putN (putN l a 4) b 2 = l ++ (putL a 4 ++ putL b 2) := by rw [putN, if_pos (by omega), e1, List.append_assoc]; rfl
  have hl : (putN (putN l a 4) b 2).length = l.length + 6 := by rw [e2]; simp [putL_len]
  have ho : getOk (putN (putN l a 4) b 2) l.length 4 := ⟨by omega, by omega, by omega⟩
  refine ⟨ho, ?_⟩
  have hd : (l ++ (putL a 4 ++ putL b 2)).drop l.length = putL a 4 ++ putL b 2 := by simp
  have ht : (putL a 4 ++ putL b 2).take 4 = putL a 4 := List.take_left' (putL_len _ _)
  rw [getN, if_pos ho, e2, Int.toNat_natCast, hd]
  show ((numN ((putL a 4 ++ putL b 2).take 4) 0 : Nat) : Int) = _
  rw [ht, numN_put]
theorem putAd_get (l : List UInt8) (a b : Int) (h : okAd a b = true) :
    gaB (putAd l a b) l.length = true ∧ gaH (putAd l a b) l.length = a ∧ gaP (putAd l a b) l.length = b ∧ gaE (putAd l a b) l.length = ((l.length + 6 : Nat) : Int) := by
  have hb := (okAd_iff a b).1 h
  have e : putAd l a b = putN (putN l a 4) b 2 := by rw [putAd, if_pos h]
  have h1 := getN_first l a b
  have hq : (putN l a 4).length = l.length + 4 := by rw [putN, if_pos (by omega), List.length_append, putL_len]; rfl
  have h2 := getN_put (putN l a 4) b 2 (by omega)
  rw [hq] at h2
  have hE : getE (putN (putN l a 4) b 2) l.length 4 = ((l.length + 4 : Nat) : Int) := by rw [getE, if_pos h1.1]; omega
  have hB : gaB (putN (putN l a 4) b 2) l.length = true := by
    rw [gaB, hE]
    simp only [getB, Bool.and_eq_true, decide_eq_true_eq]
    exact ⟨h1.1, h2.1⟩
  have hE2 : getE (putN (putN l a 4) b 2) ((l.length + 4 : Nat) : Int) 2 = ((l.length + 6 : Nat) : Int) := by rw [getE, if_pos h2.1]; omega
  rw [e]
  refine ⟨hB, ?_, ?_, ?_⟩
  · rw [gaH, if_pos hB, h1.2]; exact Int.emod_eq_of_lt (by omega) (by have : (2 : Int) ^ 32 = 4294967296 := by decide
                                                                      omega)
  · rw [gaP, if_pos hB, hE, h2.2]; exact Int.emod_eq_of_lt (by omega) (by show b < 65536; omega)
  · rw [gaE, if_pos hB, hE, hE2]
theorem gaB_cut (m : List UInt8) (k : Nat) (h : m.length = k + 5) : gaB m k = false := by
  have ho : getOk m k 4 := ⟨by omega, by omega, by omega⟩
  have hE : getE m k 4 = ((k + 4 : Nat) : Int) := by rw [getE, if_pos ho]; omega
  rw [gaB, hE, show getB m ((k + 4 : Nat) : Int) 2 = false from decide_eq_false fun x => by have := x.2.2; omega, Bool.and_false]

end Go.Proofs.YtkcmgeoaipjhhaaDoor
