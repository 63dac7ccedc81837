/- Contracts of laws.markIntS and laws.heldIntS: the one writes consecutive numbers into a row of the call's own, the other tells whether a slice holds them. -/
import Derived.Test.YtnngiampfdjlfaaBase
namespace Go.Proofs.Ytnngiampfdjlfaa
open Go.ChangeShapes Go.WideShapes Go.ChangeAt Go.RowKit
set_option linter.unusedVariables false

/-- The marks k, k + 1, .. : n of them. -/
def marksIntS (k n : Nat) : List Int := (List.range n).map fun i => ((k + i : Nat) : Int)
theorem marksIntS_len (k n : Nat) : (marksIntS k n).length = n := by simp [marksIntS]
theorem marksIntS_get (k n i : Nat) (h : i < n) : (marksIntS k n)[i]? = some (((k + i : Nat) : Int)) := by simp [marksIntS, h]
theorem marksIntS_succ (k i : Nat) : marksIntS k (i + 1) = marksIntS k i ++ [((k + i : Nat) : Int)] := by simp [marksIntS, List.range_succ]

/-- The row after i marks: marks, then the old cells. -/
def halfIntS (l : List Int) (k i : Nat) : List Value := iv (marksIntS k i ++ l.drop i)
theorem halfIntS_zero (l : List Int) (k : Nat) : halfIntS l k 0 = iv l := by simp [halfIntS, marksIntS]
theorem halfIntS_full (l : List Int) (k n : Nat) (h : l.length = n) : halfIntS l k n = iv (marksIntS k n) := by
  unfold halfIntS
  rw [List.drop_of_length_le (by omega), List.append_nil]
theorem halfIntS_get (l : List Int) (k n i : Nat) (h : l.length = n) (hi : i < n) : ∃ u, (halfIntS l k i)[i]? = some u := by
  have : i < (halfIntS l k i).length := by simp [halfIntS, iv_len, marksIntS_len]; omega
  exact ⟨_, List.getElem?_eq_getElem this⟩
theorem halfIntS_set (l : List Int) (k n i : Nat) (h : l.length = n) (hi : i < n) (u : Value) (hu : iv [((k + i : Nat) : Int)] = [u]) : (halfIntS l k i).set i u = halfIntS l k (i + 1) := by
  unfold halfIntS
  rw [marksIntS_succ, iv_app, iv_app, iv_app, hu]
  have hm : (iv (marksIntS k i)).length = i := by rw [iv_len, marksIntS_len]
  rw [List.set_append_right _ _ (by omega), hm, Nat.sub_self, List.append_assoc]
  have hd : l.drop i = l[i]'(by omega) :: l.drop (i + 1) := List.drop_eq_getElem_cons (by omega)
  have e : iv (l.drop i) = .int .i64 (l[i]'(by omega)) :: iv (l.drop (i + 1)) := by rw [hd]; rfl
  rw [e, List.set_cons_zero]
  rfl

set_option maxHeartbeats 400000 in
theorem L_markIntS (A : Option Addr) (n c lo hi : Nat) (l : List Int) (k : Nat) (w : World) (h : Ow w 3 A n c lo hi (iv l)) (hk : k + n ≤ 4611686018427387904) :
    Calls Try.prog 36 #[.slice A n c, .int .i64 (k : Int)] w fun e w' => e = .returned (.int .i64 ((k + n : Nat) : Int)) ∧ Ow w' 3 A n c lo hi (iv (marksIntS k n)) ∧ w.grownBy w' (Value.slice A n c).ownBlock := by
  have hl : l.length = n := by have := h.rd.len; rwa [iv_len] at this
  have HL := Lib.hid hl
  have hbd := h.rd.bnd
  have H := Lib.hid h
  clear hl h
  go_enter Try.func36, Try.ntmps36
  go_wp2
  go_loopw [1, 5] (fun q i wr => ∃ j : Nat, j ≤ n ∧ i = .int .i64 j ∧ q = .int .i64 ((k + j : Nat) : Int) ∧ Hid (wr.ownsRow lo 3 1 (.slice A n c) n (halfIntS l k j)) ∧ Hid (w.grownBy wr (Value.slice A n c).ownBlock))
    (fun _ i _ => n - (intOf i).toNat)
  case atStart => exact ⟨0, Nat.zero_le _, rfl, rfl, (show World.ownsRow _ _ _ _ _ _ _ by rw [halfIntS_zero]; exact H.out.own), World.grownBy.refl _ _⟩
  case round =>
    obtain ⟨j, hj, rfl, rfl, HO, HG⟩ := hrel
    by_cases hlt : j < n
    · have hlt' : (j : Int) < (n : Int) := by omega
      have hform : ∃ g, A = some ⟨g, 0, none⟩ := by
        rcases HO.out.2 with ⟨hv, h0⟩ | ⟨g, cap, cur, hv, _⟩
        · omega
        · injection hv with h1 h2 h3; exact ⟨g, h1⟩
      obtain ⟨g, rfl⟩ := hform
      obtain ⟨u, hu⟩ := halfIntS_get l k n j HL.out hlt
      have hco := (HO.out.cellAt j (by omega)).trans hu
      have hfo := HO.out.frozenAt j
      have HS := Lib.hid (HO.out.stored j (.int .i64 ((k + j : Nat) : Int)))
      clear hu
      go_wp2
      go_roundw
      case rel =>
        refine ⟨j + 1, by omega, by go_num, by go_num, ?_, ?_⟩
        · have := HS.out.1
          rw [halfIntS_set l k n j HL.out hlt _ rfl] at this
          exact this
        · exact grown_trans HG.out HS.out.2
      case measure => simp [intOf]; omega
    · have hlt' : ¬ (j : Int) < (n : Int) := by omega
      go_wp2
      go_ret
      obtain rfl : j = n := by omega
      have hf := HO.out
      rw [halfIntS_full l k j HL.out] at hf
      exact ⟨rfl, ⟨hf, H.out.lt⟩, HG.out⟩

theorem L_heldIntS (A : Option Addr) (n c : Nat) (k : Nat) (w : World) (h : Rd w A n c (iv (marksIntS k n))) (hk : k + n ≤ 4611686018427387904) :
    Calls Try.prog 37 #[.slice A n c, .int .i64 (k : Int)] w fun e w' => e = .returned (.int .i64 ((k + n : Nat) : Int)) ∧ w = w' := by
  have hbd := h.bnd
  go_enter Try.func37, Try.ntmps37
  go_wp2
  go_loop [1, 5] (fun q i => ∃ j : Nat, j ≤ n ∧ i = .int .i64 j ∧ q = .int .i64 ((k + j : Nat) : Int))
    (fun _ i => n - (intOf i).toNat)
  case atStart => exact ⟨0, Nat.zero_le _, rfl, rfl⟩
  case round =>
    obtain ⟨j, hj, rfl, rfl⟩ := hrel
    by_cases hlt : j < n
    · have hlt' : (j : Int) < (n : Int) := by omega
      obtain ⟨b, off, rfl, hlb, hcl⟩ := h.at_ (by omega)
      have hc := hcl j (.int .i64 ((k + j : Nat) : Int)) (by rw [iv, List.getElem?_map, marksIntS_get k n j hlt]; rfl)
      clear hcl
      go_wp2
      go_round
      case rel => exact ⟨j + 1, by omega, by go_num, by go_num⟩
      case measure => simp [intOf]; omega
    · have hlt' : ¬ (j : Int) < (n : Int) := by omega
      go_wp2
      go_ret
      obtain rfl : j = n := by omega
      exact ⟨rfl, rfl⟩

end Go.Proofs.Ytnngiampfdjlfaa
