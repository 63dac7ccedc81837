/- The text of an address as a plain function, and what is read from a text: the program's way (cut, split, numerals) and the reference's (byte by byte). Plain laws: both read an address from its text alone. No program in sight. -/
import Derived.Test.YtkcmgeoaipjhhaaDoorTextM
import Derived.Test.YtkcmgeoaipjhhaaDoorAddr
namespace Go.Proofs.YtkcmgeoaipjhhaaDoor
open Go.ChangeShapes Go.WideShapes Go.ChangeAt Go.RowKit
set_option linter.unusedVariables false

abbrev dgs (n : Nat) : List UInt8 := Lib.decDigits n
/-- Host's text: four numerals, dots between them. -/
def hostT (a : Nat) : List UInt8 := dgs (a / 16777216) ++ 46 :: (dgs (a / 65536 % 256) ++ 46 :: (dgs (a / 256 % 256) ++ 46 :: dgs (a % 256)))
/-- The text of an address. -/
def addrT (a b : Int) : List UInt8 := if okAd a b = true then hostT a.toNat ++ 58 :: dgs b.toNat else []

theorem okAd_iff (a b : Int) : okAd a b = true ↔ (0 ≤ a ∧ a ≤ 4294967295) ∧ 0 ≤ b ∧ b ≤ 65535 := by
  simp [okAd, inB, and_assoc]
theorem hostT_58 (a : Nat) : (58 : UInt8) ∉ hostT a := by
  unfold hostT
  have h := fun u => dig_ne u 58 (by decide)
  simp [h]
theorem addrT_nil {a b : Int} (h : okAd a b = true) : addrT a b ≠ [] := by
  rw [addrT, if_pos h]
  simp

/-- The program's reading of the host's words. -/
def hostF : Int → List (List UInt8) → Option Int
  | h, [] => some h
  | h, x :: r => match Lib.atoiAll x with
    | .ok n => if 0 ≤ n ∧ n ≤ 255 ∧ h ≤ 4294967295 then hostF (256 * h + n) r else none
    | _ => none
/-- The program's ParseAddr. -/
def implR (s : List UInt8) : Int × Int × Bool :=
  match hostF 0 (Lib.split (Lib.cut s [58]).1 [46]) with
  | none => (0, 0, false)
  | some h => match Lib.atoiAll (Lib.cut s [58]).2.1 with
    | .ok n => if okAd h n = true ∧ addrT h n = s then (h, n, true) else (0, 0, false)
    | _ => (0, 0, false)

theorem hostF_four (a : Nat) (ha : a ≤ 4294967295) : hostF 0 (Lib.split (hostT a) [46]) = some (a : Int) := by
  have h := fun u => dig_ne u 46 (by decide)
  rw [hostT, split_four _ _ _ _ 46 (h _) (h _) (h _) (h _)]
  have e := fun u (hu : u < 1000000000000) => atoi_dig u hu
  simp only [hostF]
  rw [e _ (by omega), e _ (by omega), e _ (by omega), e _ (by omega)]
  simp only
  rw [if_pos (by omega), if_pos (by omega), if_pos (by omega), if_pos (by omega)]
  congr 1
  omega
theorem implR_text {a b : Int} (h : okAd a b = true) : implR (addrT a b) = (a, b, true) := by
  have hb := (okAd_iff a b).1 h
  have e : addrT a b = hostT a.toNat ++ 58 :: dgs b.toNat := by rw [addrT, if_pos h]
  have h1 := hostF_four a.toNat (by omega)
  have h2 := atoi_dig b.toNat (by omega)
  have ha : (a.toNat : Int) = a := by omega
  have hbn : (b.toNat : Int) = b := by omega
  rw [ha] at h1
  rw [hbn] at h2
  unfold implR
  rw [e, cut_at _ _ 58 (hostT_58 _)]
  simp only [h1, h2]
  rw [if_pos ⟨h, e⟩]
theorem implR_cases (s : List UInt8) : implR s = (0, 0, false) ∨ ∃ a b, okAd a b = true ∧ addrT a b = s ∧ implR s = (a, b, true) := by
  unfold implR
  split
  · exact .inl rfl
  · split
    · split
      · rename_i h
        exact .inr ⟨_, _, h.1, h.2, rfl⟩
      · exact .inl rfl
    · exact .inl rfl

/-- The reference's step: the numbers so far, the number under way (-1: none). -/
def stepS (x : List Int × Int) (c : UInt8) : Option (List Int × Int) :=
  if c = 46 ∨ c = 58 then (if x.2 < 0 ∨ 4 < x.1.length then none else some (x.1 ++ [x.2], -1))
  else if ¬ (48 ≤ c.toNat ∧ c.toNat ≤ 57) ∨ 6553 < x.2 then none
  else some (x.1, 10 * (if x.2 < 0 then 0 else x.2) + ((c.toNat : Int) - 48))
def foldS : List Int × Int → List UInt8 → Option (List Int × Int)
  | x, [] => some x
  | x, c :: r => match stepS x c with
    | some y => foldS y r
    | none => none
/-- The reference's ParseAddr: the text's end is one separator more. -/
def specR (s : List UInt8) : Int × Int × Bool :=
  match foldS ([], -1) (s ++ [58]) with
  | some ([p, q, r, t, u], _) =>
    if p ≤ 255 ∧ q ≤ 255 ∧ r ≤ 255 ∧ t ≤ 255 ∧ addrT (p * 16777216 + q * 65536 + r * 256 + t) u = s then (p * 16777216 + q * 65536 + r * 256 + t, u, true) else (0, 0, false)
  | _ => (0, 0, false)

theorem foldS_app (x : List Int × Int) (l r : List UInt8) : foldS x (l ++ r) = (match foldS x l with | some y => foldS y r | none => none) := by
  induction l generalizing x with
  | nil => rfl
  | cons c l ih =>
    simp only [List.cons_append, foldS]
    cases stepS x c with
    | none => rfl
    | some y => exact ih y
theorem foldS_dig (l : List Int) (u : Nat) (hu : u ≤ 65539) : foldS (l, -1) (Lib.decDigits u) = some (l, (u : Int)) := by
  induction u using Nat.strongRecOn with
  | _ u ih =>
    rw [Lib.decDigits]
    split
    · rename_i h
      have e : (UInt8.ofNat (48 + u)).toNat = 48 + u := by simp; omega
      have n1 : UInt8.ofNat (48 + u) ≠ 46 := fun e' => by rw [e'] at e; simp at e; omega
      have n2 : UInt8.ofNat (48 + u) ≠ 58 := fun e' => by rw [e'] at e; simp at e; omega
      simp only [foldS, stepS]
      rw [if_neg (fun hh => hh.elim n1 n2), if_neg (by simp only [e]; omega)]
      simp only [e]
      rw [if_pos (by omega)]
      congr 2
      omega
    · rename_i h
      have e : (UInt8.ofNat (48 + u % 10)).toNat = 48 + u % 10 := by simp; omega
      have n1 : UInt8.ofNat (48 + u % 10) ≠ 46 := fun e' => by rw [e'] at e; simp at e; omega
      have n2 : UInt8.ofNat (48 + u % 10) ≠ 58 := fun e' => by rw [e'] at e; simp at e; omega
      rw [foldS_app, ih (u / 10) (by omega) (by omega)]
      simp only [foldS, stepS]
      rw [if_neg (fun hh => hh.elim n1 n2), if_neg (by simp only [e]; omega)]
      simp only [e]
      rw [if_neg (by omega)]
      congr 2
      omega
theorem foldS_sep (l : List Int) (u : Nat) (c : UInt8) (r : List UInt8) (hu : u ≤ 65539) (hc : c = 46 ∨ c = 58) (hl : l.length ≤ 4) : foldS (l, -1) (Lib.decDigits u ++ c :: r) = foldS (l ++ [(u : Int)], -1) r := by
  rw [foldS_app, foldS_dig l u hu]
  simp only [foldS, stepS]
  rw [if_pos hc, if_neg (by show ¬ ((u : Int) < 0 ∨ 4 < l.length); omega)]
theorem specR_text {a b : Int} (h : okAd a b = true) : specR (addrT a b) = (a, b, true) := by
  have hb := (okAd_iff a b).1 h
  have e : addrT a b = hostT a.toNat ++ 58 :: dgs b.toNat := by rw [addrT, if_pos h]
  have hf : foldS ([], -1) (addrT a b ++ [58]) = some ([((a.toNat / 16777216 : Nat) : Int), ((a.toNat / 65536 % 256 : Nat) : Int), ((a.toNat / 256 % 256 : Nat) : Int), ((a.toNat % 256 : Nat) : Int), ((b.toNat : Nat) : Int)], -1) := by
    rw [e, hostT]
    simp only [List.append_assoc, List.cons_append, dgs]
    rw [foldS_sep _ _ _ _ (by omega) (.inl rfl) (by simp), foldS_sep _ _ _ _ (by omega) (.inl rfl) (by simp), foldS_sep _ _ _ _ (by omega) (.inl rfl) (by simp), foldS_sep _ _ _ _ (by omega) (.inr rfl) (by simp), foldS_sep _ _ _ _ (by omega) (.inr rfl) (by simp)]
    rfl
  have ea : ((a.toNat / 16777216 : Nat) : Int) * 16777216 + ((a.toNat / 65536 % 256 : Nat) : Int) * 65536 + ((a.toNat / 256 % 256 : Nat) : Int) * 256 + ((a.toNat % 256 : Nat) : Int) = a := by omega
  have eb : ((b.toNat : Nat) : Int) = b := by omega
  unfold specR
  rw [hf]
  simp only
  rw [ea, eb, if_pos ⟨by omega, by omega, by omega, by omega, rfl⟩]
theorem specR_cases (s : List UInt8) : specR s = (0, 0, false) ∨ ∃ a b, okAd a b = true ∧ addrT a b = s ∧ specR s = (a, b, true) := by
  unfold specR
  split
  · rename_i p q r t u z hf
    split
    · rename_i h
      obtain ⟨h1, h2, h3, h4, h5⟩ := h
      by_cases hok : okAd (p * 16777216 + q * 65536 + r * 256 + t) u = true
      · exact .inr ⟨_, _, hok, h5, rfl⟩
      · exfalso
        rw [addrT, if_neg hok] at h5
        subst h5
        simp [foldS, stepS] at hf
    · exact .inl rfl
  · exact .inl rfl
/-- BOTH READ THE SAME. -/
theorem implR_specR (s : List UInt8) : implR s = specR s := by
  rcases implR_cases s with h | ⟨a, b, ho, rfl, h⟩
  · rcases specR_cases s with k | ⟨a, b, ho, rfl, k⟩
    · rw [h, k]
    · rw [implR_text ho] at h
      cases h
  · rw [h, specR_text ho]

end Go.Proofs.YtkcmgeoaipjhhaaDoor
