/- Plain laws on decimal numerals: their bytes are digits; a numeral is parsed as its number; a byte that is not in a list is found behind it. No program in sight. -/
import Derived.Lib.ItoaMem
import Derived.Lib.AtoiAll
import Derived.Lib.SplitLaws
import Derived.Lib.CutLaws
import Derived.Lib.Join
namespace Go.Proofs.YtkcmgeoaipjhhaaDoor
set_option linter.unusedVariables false

theorem dig_mem (u : Nat) : ∀ c ∈ Lib.decDigits u, 48 ≤ c.toNat ∧ c.toNat ≤ 57 := by
  induction u using Nat.strongRecOn with
  | _ u ih =>
    rw [Lib.decDigits]
    split
    · intro c hc
      simp at hc
      subst hc
      simp
      omega
    · rename_i h
      intro c hc
      rcases List.mem_append.1 hc with hc | hc
      · exact ih (u / 10) (by omega) c hc
      · simp at hc
        subst hc
        simp
        omega
theorem dig_ne (u : Nat) (x : UInt8) (hx : x.toNat < 48 ∨ 57 < x.toNat) : x ∉ Lib.decDigits u := fun hm => by
  have := dig_mem u x hm
  omega
theorem dig_nil (u : Nat) : Lib.decDigits u ≠ [] := fun e => by
  have := Lib.decDigits_length u
  have h1 := Lib.nDigits_pos u
  rw [e] at this
  simp at this
  omega

theorem parse_app (l : List UInt8) (c : UInt8) (acc : Nat) : Lib.parseUint10 acc (l ++ [c]) = (match Lib.parseUint10 acc l with | .ok v => Lib.parseUint10 v [c] | e => e) := by
  induction l generalizing acc with
  | nil => simp [Lib.parseUint10]
  | cons x r ih =>
    simp only [List.cons_append, Lib.parseUint10]
    split
    · split
      · rfl
      · split
        · rfl
        · exact ih _
    · rfl
theorem parse_dig (u : Nat) (hu : u < 1000000000000) : Lib.parseUint10 0 (Lib.decDigits u) = .ok u := by
  induction u using Nat.strongRecOn with
  | _ u ih =>
    rw [Lib.decDigits]
    split
    · rename_i h
      have e : (UInt8.ofNat (48 + u)).toNat = 48 + u := by simp; omega
      simp only [Lib.parseUint10, e]
      rw [if_pos (by omega), if_neg (by omega), if_neg (by omega)]
      congr 1
      omega
    · rename_i h
      have e : (UInt8.ofNat (48 + u % 10)).toNat = 48 + u % 10 := by simp; omega
      rw [parse_app, ih (u / 10) (by omega) (by omega)]
      simp only [Lib.parseUint10, e]
      rw [if_pos (by omega), if_neg (by omega), if_neg (by omega)]
      congr 1
      omega
theorem atoi_dig (u : Nat) (hu : u < 1000000000000) : Lib.atoiAll (Lib.decDigits u) = .ok (u : Int) := by
  have hp : Lib.parseMag (Lib.decDigits u) = .ok u := by
    unfold Lib.parseMag
    rw [if_neg (dig_nil u), parse_dig u hu]
  have hm := dig_mem u
  unfold Lib.atoiAll
  cases hd : Lib.decDigits u with
  | nil => exact absurd hd (dig_nil u)
  | cons c r =>
    have hc := hm c (by rw [hd]; exact List.mem_cons_self)
    rw [hd] at hp
    simp only
    rw [if_neg (by omega), hp]
    simp only
    rw [if_neg (by omega), if_neg (by omega), if_neg (by omega)]

/-- A byte that is not in l is found behind it. -/
theorem index_one (l r : List UInt8) (c : UInt8) (h : c ∉ l) : Lib.index (l ++ c :: r) [c] = l.length := by
  induction l with
  | nil => simp [Lib.index]
  | cons x l ih =>
    have hx : c ≠ x := fun e => h (by rw [e]; exact List.mem_cons_self)
    have hl := ih (fun hm => h (List.mem_cons_of_mem _ hm))
    simp only [List.cons_append, Lib.index]
    rw [if_neg (by simp [hx]), hl, if_neg (by simp)]
    simp
theorem index_none (l : List UInt8) (c : UInt8) (h : c ∉ l) : Lib.index l [c] = -1 := by
  induction l with
  | nil => simp [Lib.index]
  | cons x l ih =>
    have hx : c ≠ x := fun e => h (by rw [e]; exact List.mem_cons_self)
    have hl := ih (fun hm => h (List.mem_cons_of_mem _ hm))
    simp only [Lib.index]
    rw [if_neg (by simp [hx]), hl, if_pos (by rfl)]
theorem cut_at (l r : List UInt8) (c : UInt8) (h : c ∉ l) : Lib.cut (l ++ c :: r) [c] = (l, r, true) := by
  unfold Lib.cut
  rw [index_one l r c h, if_pos (by omega)]
  simp
theorem split_hit (l r : List UInt8) (c : UInt8) (k : Nat) (h : c ∉ l) : Lib.splitK [c] 0 (k + 1) (l ++ c :: r) = l :: Lib.splitK [c] 0 k r := by
  rw [Lib.splitK, index_one l r c h, if_neg (by simp)]
  simp
theorem split_four (a b d e : List UInt8) (c : UInt8) (ha : c ∉ a) (hb : c ∉ b) (hd : c ∉ d) (he : c ∉ e) : Lib.split (a ++ c :: (b ++ c :: (d ++ c :: e))) [c] = [a, b, d, e] := by
  have hn : Lib.count (a ++ c :: (b ++ c :: (d ++ c :: e))) [c] = 3 := by
    rw [Lib.count_one]
    simp [List.count_eq_zero_of_not_mem ha, List.count_eq_zero_of_not_mem hb, List.count_eq_zero_of_not_mem hd, List.count_eq_zero_of_not_mem he]
  rw [Lib.split, hn, split_hit a _ c 2 ha, split_hit b _ c 1 hb, split_hit d _ c 0 hd]
  rfl

end Go.Proofs.YtkcmgeoaipjhhaaDoor
