/- Contract of laws.eqByteS: it tells whether two slices hold the same bytes; it draws and writes nothing. -/
import Derived.Test.YtnngiampfdjlfaaBase
namespace Go.Proofs.Ytnngiampfdjlfaa
open Go.ChangeShapes Go.WideShapes Go.ChangeAt Go.RowKit
set_option linter.unusedVariables false

/-- The lists are equal. -/
def eqbv (l m : List UInt8) : Bool := decide (l = m)
theorem eqbv_same (l : List UInt8) : eqbv l l = true := by simp [eqbv]

theorem L_eqByteS (A A' : Option Addr) (n n' c c' : Nat) (l m : List UInt8) (w : World) (h : Rd w A n c (bv l)) (h' : Rd w A' n' c' (bv m)) :
    Calls Try.prog 9 #[.slice A n c, .slice A' n' c'] w fun e w' => e = .returned (.bool (eqbv l m)) ∧ ∃ d, w' = w.drewN d := by
  have hl : l.length = n := by have := h.len; rwa [bv_len] at this
  have hm : m.length = n' := by have := h'.len; rwa [bv_len] at this
  have hbd := h.bnd
  have hbd' := h'.bnd
  by_cases hnn : n = n'
  · subst hnn
    have HL := Lib.hid hl
    have HM := Lib.hid hm
    clear hl hm
    go_enter Try.func9, Try.ntmps9
    go_wp2
    go_loopw [5] (fun i wr => ∃ k : Nat, k ≤ n ∧ i = .int .i64 k ∧ Hid (l.take k = m.take k) ∧ ∃ d, wr = w.drewN d)
      (fun i _ => n - (intOf i).toNat)
    case atStart => exact ⟨0, Nat.zero_le _, rfl, (rfl : _ = _), 0, rfl⟩
    case round =>
      obtain ⟨k, hk, rfl, HT, d, rfl⟩ := hrel
      by_cases hlt : k < n
      · obtain ⟨b, off, rfl, hlb, hcl⟩ := h.at_ (by omega)
        obtain ⟨b', off', rfl, hlb', hcl'⟩ := h'.at_ (by omega)
        have hkl : k < l.length := by rw [HL.out]; exact hlt
        have hkm : k < m.length := by rw [HM.out]; exact hlt
        have hc1 := hcl k _ (bv_get hkl)
        have hc2 := hcl' k _ (bv_get hkm)
        have hlt' : (k : Int) < (n : Int) := by omega
        have hT : l.take (k + 1) = l.take k ++ [l[k]] ∧ m.take (k + 1) = m.take k ++ [m[k]] := by
          rw [List.take_succ_eq_append_getElem hkl, List.take_succ_eq_append_getElem hkm]; exact ⟨rfl, rfl⟩
        have HT2 := Lib.hid hT
        clear hT
        by_cases hne : l[k] = m[k]
        · have HN := Lib.hid hne
          have hb : ((((l[k]).toNat : Nat) : Int) == (((m[k]).toNat : Nat) : Int)) = true := by rw [hne]; simp
          clear hne
          go_wp2
          go_quiet (fail)
          go_wp2
          go_roundw
          case rel => exact ⟨k + 1, by omega, by go_num, show _ = _ by rw [HT2.out.1, HT2.out.2, HT.out, HN.out], _, rfl⟩
          case measure => simp [intOf]; omega
        · have HR := Lib.hid (show eqbv l m = false by
            unfold eqbv
            rw [decide_eq_false_iff_not]
            intro e
            exact hne (by subst e; rfl))
          have hb : ((((l[k]).toNat : Nat) : Int) == (((m[k]).toNat : Nat) : Int)) = false := by rw [beq_eq_false_iff_ne]; exact fun e => hne (byte_inj e)
          clear hne
          go_wp2
          go_quiet (fail)
          go_wp2
          go_ret
          exact ⟨by rw [HR.out]; rfl, _, World.drewN_drewN _ _ _⟩
      · have HR := Lib.hid (show eqbv l m = true by
          have e := HT.out
          obtain rfl : k = n := by omega
          rw [List.take_of_length_le (by rw [HL.out]; exact Nat.le_refl _), List.take_of_length_le (by rw [HM.out]; exact Nat.le_refl _)] at e
          rw [e]; exact eqbv_same m)
        have hlt' : ¬ (k : Int) < (n : Int) := by omega
        go_wp2
        go_ret
        exact ⟨by rw [HR.out]; rfl, _, rfl⟩
  · have HR := Lib.hid (show eqbv l m = false by
      unfold eqbv
      rw [decide_eq_false_iff_not]
      intro e
      exact hnn (by rw [← hl, ← hm, e]))
    have hb : ((n : Int) == (n' : Int)) = false := by rw [beq_eq_false_iff_ne]; omega
    clear hl hm hnn
    go_enter Try.func9, Try.ntmps9
    go_wp2
    go_ret
    exact ⟨by rw [HR.out]; rfl, 0, rfl⟩

theorem L_eqByteS_same (A A' : Option Addr) (n n' c c' : Nat) (l : List UInt8) (w : World) (h : Rd w A n c (bv l)) (h' : Rd w A' n' c' (bv l)) :
    Calls Try.prog 9 #[.slice A n c, .slice A' n' c'] w fun e w' => e = .returned (.bool true) ∧ Below w.heap.size w w' :=
  (L_eqByteS A A' n n' c c' l l w h h').mono fun e w' ⟨he, d, hw⟩ => ⟨by rw [he, eqbv_same], by rw [hw]; exact Joins.below_draws _ _ _⟩

end Go.Proofs.Ytnngiampfdjlfaa
