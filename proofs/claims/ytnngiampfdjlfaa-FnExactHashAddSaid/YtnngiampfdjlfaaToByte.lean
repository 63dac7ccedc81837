/- Contract of laws.toByteS: a fresh slice with the same bytes. -/
import Derived.Test.YtnngiampfdjlfaaAppend
namespace Go.Proofs.Ytnngiampfdjlfaa
open Go.ChangeShapes Go.WideShapes Go.ChangeAt Go.RowKit
set_option linter.unusedVariables false

/-- The first k bytes of l, then zeros, n in all. -/
def fillB (l : List UInt8) (n k : Nat) : List Value := bv (l.take k) ++ List.replicate (n - k) (.int .u8 0)
theorem fillB_zero (l : List UInt8) (n : Nat) : fillB l n 0 = List.replicate n (.int .u8 0) := by simp [fillB, bv]
theorem fillB_full (l : List UInt8) (n : Nat) (h : l.length = n) : fillB l n n = bv l := by simp [fillB, ← h]
theorem fillB_set (l : List UInt8) (n k : Nat) (h : l.length = n) (hk : k < n) (u : UInt8) (hu : l[k]? = some u) : (fillB l n k).set k (.int .u8 (u.toNat : Int)) = fillB l n (k + 1) := by
  have hkl : k < l.length := by omega
  have hb : (bv (l.take k)).length = k := by rw [bv_len, List.length_take]; omega
  unfold fillB
  rw [List.set_append_right _ _ (by omega), hb, Nat.sub_self]
  have e1 : n - k = (n - (k + 1)) + 1 := by omega
  rw [e1, List.replicate_succ, List.set_cons_zero]
  have e2 : l.take (k + 1) = l.take k ++ [u] := by rw [List.take_add_one, hu]; rfl
  rw [e2, bv_app]
  simp [bv]
theorem fillB_get (l : List UInt8) (n k : Nat) (h : l.length = n) (hk : k < n) : (fillB l n k)[k]? = some (.int .u8 0) := by
  have hb : (bv (l.take k)).length = k := by rw [bv_len, List.length_take]; omega
  unfold fillB
  rw [List.getElem?_append_right (by omega), hb, Nat.sub_self, List.getElem?_replicate, if_pos (by omega)]
theorem fillB_len (l : List UInt8) (n k : Nat) (h : l.length = n) (hk : k ≤ n) : (fillB l n k).length = n := by
  simp [fillB, bv_len]; omega

set_option maxHeartbeats 400000 in
theorem L_toByteS (A : Option Addr) (n c : Nat) (l : List UInt8) (w : World) (h : Rd w A n c (bv l)) (hn : n ≤ 1048576) :
    Calls Try.prog 7 #[.slice A n c] w fun e w' => Out 5 w (bv l) e w' := by
  obtain ⟨i0, hi0, hz0, hz1, hz2⟩ := info_parts info_u8
  have hll : l.length = n := by have := h.len; rwa [bv_len] at this
  have HL := Lib.hid hll
  have HZ2 := Lib.hid hz2
  clear hll hz2
  have hbd := h.bnd
  go_enter Try.func7, Try.ntmps7
  go_wp2_with (at_make; refine wpList_make_full _ rfl _ _ 22 rfl w.heap.size 5 i0 (.int .u8 0) 1 Try.underlying22 hi0 hz0 hz1 _ _ _ _ n rfl rfl rfl rfl ?q1 ?q2 ?q3 ?q4)
  case q1 => rw [HZ2.out]; omega
  case q2 => unfold maxLen; omega
  case q3 => exact Nat.le_refl _
  intro w1 hown hgrow
  have hb1 : Below w.heap.size w w1 := grown_below hgrow (fun k hk => by cases hk) (Nat.le_refl _)
  have hs1 : w.heap.size < w1.heap.size := by
    have := hown.lt w.heap.size rfl
    omega
  have HO := Lib.hid hown
  clear hown hgrow hi0 hz0 hz1
  go_wp2
  go_loopw [4] (fun i wr => ∃ k : Nat, k ≤ n ∧ i = .int .i64 k ∧ Hid (wr.ownsRow w.heap.size 5 1 (.slice (some ⟨w.heap.size, 0, none⟩) n n) n (fillB l n k)) ∧ Below w.heap.size w wr)
    (fun i _ => n - (intOf i).toNat)
  case atStart =>
    refine ⟨0, Nat.zero_le _, rfl, ?_, hb1⟩
    have := HO.out
    rw [fillB_zero, ← toList_madeCells_one]
    exact this
  case round =>
    obtain ⟨k, hk, rfl, HO1, hb⟩ := hrel
    by_cases hlt : k < n
    · obtain ⟨b, off, rfl, hlb, hcl⟩ := h.at_ (by omega)
      have hkl : k < l.length := by rw [HL.out]; exact hlt
      have hcs := (hb.cell (p := ⟨b, off + k, none⟩) hlb).trans (hcl k _ (bv_get hkl))
      have hco := (HO1.out.cellAt k (by omega)).trans (fillB_get l n k HL.out hlt)
      have hfo := HO1.out.frozenAt k
      have HS := Lib.hid (HO1.out.stored k (.int .u8 ((l[k]'hkl).toNat : Int)))
      have hlt' : (k : Int) < (n : Int) := by omega
      go_wp2
      go_roundw
      case rel =>
        refine ⟨k + 1, by omega, by go_num, ?_, hb.grown HS.out.2 hb.size (fun g hg => by injection hg with hg; omega)⟩
        have := HS.out.1
        rw [fillB_set l n k HL.out hlt _ (List.getElem?_eq_getElem hkl)] at this
        exact this
      case measure => simp [intOf]; omega
    · have hlt' : ¬ (k : Int) < (n : Int) := by omega
      go_wp2
      go_ret
      obtain rfl : k = n := by omega
      have hf := HO1.out
      rw [fillB_full l k HL.out] at hf
      exact ⟨_, _, _, rfl, Ow.of_own hf, hb⟩

end Go.Proofs.Ytnngiampfdjlfaa
