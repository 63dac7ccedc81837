/- Contracts of laws.markByteS and laws.heldByteS: the one writes consecutive numbers into a row of the call's own, the other tells whether a slice holds them. -/
import Derived.Test.YtnngiampfdjlfaaBase
namespace Go.Proofs.Ytnngiampfdjlfaa
open Go.ChangeShapes Go.WideShapes Go.ChangeAt Go.RowKit
set_option linter.unusedVariables false

/-- The marks k, k + 1, .. : n of them. -/
def marksByteS (k n : Nat) : List UInt8 := (List.range n).map fun i => UInt8.ofNat (k + i)
theorem marksByteS_len (k n : Nat) : (marksByteS k n).length = n := by simp [marksByteS]
theorem marksByteS_get (k n i : Nat) (h : i < n) : (marksByteS k n)[i]? = some (UInt8.ofNat (k + i)) := by simp [marksByteS, h]
theorem marksByteS_succ (k i : Nat) : marksByteS k (i + 1) = marksByteS k i ++ [UInt8.ofNat (k + i)] := by simp [marksByteS, List.range_succ]

theorem mark_cell (m : Nat) : (((UInt8.ofNat m).toNat : Nat) : Int) = (m : Int) % 256 := by rw [UInt8.toNat_ofNat']; omega

/-- The row after i marks: marks, then the old cells. -/
def halfByteS (l : List UInt8) (k i : Nat) : List Value := bv (marksByteS k i ++ l.drop i)
theorem halfByteS_zero (l : List UInt8) (k : Nat) : halfByteS l k 0 = bv l := by simp [halfByteS, marksByteS]
theorem halfByteS_full (l : List UInt8) (k n : Nat) (h : l.length = n) : halfByteS l k n = bv (marksByteS k n) := by
  unfold halfByteS
  rw [List.drop_of_length_le (by omega), List.append_nil]
theorem halfByteS_get (l : List UInt8) (k n i : Nat) (h : l.length = n) (hi : i < n) : ∃ u, (halfByteS l k i)[i]? = some u := by
  have : i < (halfByteS l k i).length := by simp [halfByteS, bv_len, marksByteS_len]; omega
  exact ⟨_, List.getElem?_eq_getElem this⟩
theorem halfByteS_set (l : List UInt8) (k n i : Nat) (h : l.length = n) (hi : i < n) (u : Value) (hu : bv [UInt8.ofNat (k + i)] = [u]) : (halfByteS l k i).set i u = halfByteS l k (i + 1) := by
  unfold halfByteS
  rw [marksByteS_succ, bv_app, bv_app, bv_app, hu]
  have hm : (bv (marksByteS k i)).length = i := by rw [bv_len, marksByteS_len]
  rw [List.set_append_right _ _ (by omega), hm, Nat.sub_self, List.append_assoc]
  have hd : l.drop i = l[i]'(by omega) :: l.drop (i + 1) := List.drop_eq_getElem_cons (by omega)
  have e : bv (l.drop i) = .int .u8 (((l[i]'(by omega)).toNat : Nat) : Int) :: bv (l.drop (i + 1)) := by rw [hd]; rfl
  rw [e, List.set_cons_zero]
  rfl

set_option maxHeartbeats 400000 in
theorem L_markByteS (A : Option Addr) (n c lo hi : Nat) (l : List UInt8) (k : Nat) (w : World) (h : Ow w 5 A n c lo hi (bv l)) (hk : k + n ≤ 4611686018427387904) :
    Calls Try.prog 16 #[.slice A n c, .int .i64 (k : Int)] w fun e w' => e = .returned (.int .i64 ((k + n : Nat) : Int)) ∧ Ow w' 5 A n c lo hi (bv (marksByteS k n)) ∧ w.grownBy w' (Value.slice A n c).ownBlock := by
  have hl : l.length = n := by have := h.rd.len; rwa [bv_len] at this
  have HL := Lib.hid hl
  have hbd := h.rd.bnd
  have H := Lib.hid h
  clear hl h
  go_enter Try.func16, Try.ntmps16
  go_wp2
  go_loopw [1, 5] (fun q i wr => ∃ j : Nat, j ≤ n ∧ i = .int .i64 j ∧ q = .int .i64 ((k + j : Nat) : Int) ∧ Hid (wr.ownsRow lo 5 1 (.slice A n c) n (halfByteS l k j)) ∧ Hid (w.grownBy wr (Value.slice A n c).ownBlock))
    (fun _ i _ => n - (intOf i).toNat)
  case atStart => exact ⟨0, Nat.zero_le _, rfl, rfl, (show World.ownsRow _ _ _ _ _ _ _ by rw [halfByteS_zero]; exact H.out.own), World.grownBy.refl _ _⟩
  case round =>
    obtain ⟨j, hj, rfl, rfl, HO, HG⟩ := hrel
    by_cases hlt : j < n
    · have hlt' : (j : Int) < (n : Int) := by omega
      have hform : ∃ g, A = some ⟨g, 0, none⟩ := by
        rcases HO.out.2 with ⟨hv, h0⟩ | ⟨g, cap, cur, hv, _⟩
        · omega
        · injection hv with h1 h2 h3; exact ⟨g, h1⟩
      obtain ⟨g, rfl⟩ := hform
      obtain ⟨u, hu⟩ := halfByteS_get l k n j HL.out hlt
      have hco := (HO.out.cellAt j (by omega)).trans hu
      have hfo := HO.out.frozenAt j
      have HS := Lib.hid (HO.out.stored j (.int .u8 (((k + j : Nat) : Int) % 256)))
      clear hu
      go_wp2
      go_roundw
      case rel =>
        refine ⟨j + 1, by omega, by go_num, by go_num, ?_, ?_⟩
        · have := HS.out.1
          rw [halfByteS_set l k n j HL.out hlt _ (by simp [bv])] at this
          exact this
        · exact grown_trans HG.out HS.out.2
      case measure => simp [intOf]; omega
    · have hlt' : ¬ (j : Int) < (n : Int) := by omega
      go_wp2
      go_ret
      obtain rfl : j = n := by omega
      have hf := HO.out
      rw [halfByteS_full l k j HL.out] at hf
      exact ⟨rfl, ⟨hf, H.out.lt⟩, HG.out⟩

theorem L_heldByteS (A : Option Addr) (n c : Nat) (k : Nat) (w : World) (h : Rd w A n c (bv (marksByteS k n))) (hk : k + n ≤ 4611686018427387904) :
    Calls Try.prog 38 #[.slice A n c, .int .i64 (k : Int)] w fun e w' => e = .returned (.int .i64 ((k + n : Nat) : Int)) ∧ w = w' := by
  have hbd := h.bnd
  go_enter Try.func38, Try.ntmps38
  go_wp2
  go_loop [1, 5] (fun q i => ∃ j : Nat, j ≤ n ∧ i = .int .i64 j ∧ q = .int .i64 ((k + j : Nat) : Int))
    (fun _ i => n - (intOf i).toNat)
  case atStart => exact ⟨0, Nat.zero_le _, rfl, rfl⟩
  case round =>
    obtain ⟨j, hj, rfl, rfl⟩ := hrel
    by_cases hlt : j < n
    · have hlt' : (j : Int) < (n : Int) := by omega
      obtain ⟨b, off, rfl, hlb, hcl⟩ := h.at_ (by omega)
      have hc := hcl j (.int .u8 (((k + j : Nat) : Int) % 256)) (by rw [bv, List.getElem?_map, marksByteS_get k n j hlt]; simp)
      clear hcl
      go_wp2
      go_round
      case rel => exact ⟨j + 1, by omega, by go_num, by go_num⟩
      case measure => simp [intOf]; omega
    · have hlt' : ¬ (j : Int) < (n : Int) := by omega
      go_wp2
      go_ret
      obtain rfl : j = n := by omega
      exact ⟨rfl, rfl⟩

end Go.Proofs.Ytnngiampfdjlfaa
