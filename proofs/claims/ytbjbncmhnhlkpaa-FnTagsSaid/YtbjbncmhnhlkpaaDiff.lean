/- Contracts of Diff (reference and program): the bitwise OR of the XORs of the corresponding bytes, or -1 if the lengths differ. -/
import Derived.Test.YtbjbncmhnhlkpaaWord
namespace Go.Proofs.Ytbjbncmhnhlkpaa
open Go.ChangeShapes Go.WideShapes Go.ChangeAt Go.RowKit
set_option linter.unusedVariables false

/-- The OR of the XORs of the first k bytes, in the order in which a loop takes them. -/
def orxTo (l m : List UInt8) : Nat → Nat
  | 0 => 0
  | k + 1 => orxTo l m k ||| ((l.getD k 0) ^^^ (m.getD k 0)).toNat
theorem orxTo_lt (l m : List UInt8) (k : Nat) : orxTo l m k < 256 := by
  induction k with
  | zero => simp [orxTo]
  | succ k ih => exact Nat.or_lt_two_pow (n := 8) ih (UInt8.toNat_lt _)
/-- Diff of the program. -/
def diffI (l m : List UInt8) : Int := if l.length = m.length then (orxTo l m l.length : Int) else -1
theorem or_step (l m : List UInt8) (k : Nat) (hl : k < l.length) (hm : k < m.length) :
    bits .or .i64 ((orxTo l m k : Nat) : Int) ((l[k].toNat ^^^ m[k].toNat : Nat) : Int) = ((orxTo l m (k + 1) : Nat) : Int) := by
  have h1 := orxTo_lt l m k
  have h2 := xor_bd l[k] m[k]
  rw [(bits64_nat _ _ (by omega) (by omega)).1]
  simp [orxTo, List.getD, hl, hm]

theorem I_Diff (A A' : Option Addr) (n n' c c' : Nat) (l m : List UInt8) (w : World) (h : Rd w A n c (bv l)) (h' : Rd w A' n' c' (bv m)) :
    Calls Try.prog 38 #[.slice A n c, .slice A' n' c'] w fun e w' => e = .returned (.int .i64 (diffI l m)) ∧ ∃ d, w' = w.drewN d := by
  have hl : l.length = n := by have := h.len; rwa [bv_len] at this
  have hm : m.length = n' := by have := h'.len; rwa [bv_len] at this
  have hbd := h.bnd
  have hbd' := h'.bnd
  by_cases hnn : n = n'
  · subst hnn
    have HL := Lib.hid hl
    have HM := Lib.hid hm
    clear hl hm
    go_enter Try.func38, Try.ntmps38
    go_wp2
    go_loopw [5, 14] (fun q i wr => ∃ k : Nat, k ≤ n ∧ i = .int .i64 k ∧ q = .int .i64 ((orxTo l m k : Nat) : Int) ∧ ∃ d, wr = w.drewN d)
      (fun _ i _ => n - (intOf i).toNat)
    case atStart => exact ⟨0, Nat.zero_le _, rfl, rfl, 0, rfl⟩
    case round =>
      obtain ⟨k, hk, rfl, rfl, d, rfl⟩ := hrel
      by_cases hlt : k < n
      · obtain ⟨b, off, rfl, hlb, hcl⟩ := h.at_ (by omega)
        obtain ⟨b', off', rfl, hlb', hcl'⟩ := h'.at_ (by omega)
        have hkl : k < l.length := by rw [HL.out]; exact hlt
        have hkm : k < m.length := by rw [HM.out]; exact hlt
        have hc1 := hcl k _ (bv_get hkl)
        have hc2 := hcl' k _ (bv_get hkm)
        have hlt' : (k : Int) < (n : Int) := by omega
        have hx := xor_bd l[k] m[k]
        have HO := Lib.hid (or_step l m k hkl hkm)
        go_wp2
        go_quiet (fail)
        go_wp2
        go_roundw
        case rel => exact ⟨k + 1, by omega, by go_num, ret_val HO.out, _, rfl⟩
        case measure => simp [intOf]; omega
      · have HR := Lib.hid (show diffI l m = ((orxTo l m k : Nat) : Int) by
          obtain rfl : k = n := by omega
          rw [diffI, HL.out, HM.out, if_pos rfl])
        have hlt' : ¬ (k : Int) < (n : Int) := by omega
        go_wp2
        go_ret
        exact ⟨by rw [HR.out]; rfl, _, rfl⟩
  · have HR := Lib.hid (show diffI l m = -1 by rw [diffI, hl, hm, if_neg hnn])
    have hb : ((n : Int) == (n' : Int)) = false := by rw [beq_eq_false_iff_ne]; omega
    clear hl hm hnn
    go_enter Try.func38, Try.ntmps38
    go_wp2
    go_ret
    exact ⟨by rw [HR.out]; rfl, 0, rfl⟩

end Go.Proofs.Ytbjbncmhnhlkpaa
