/- Contract of laws.toIntS: a fresh slice with the same ints. -/
import Derived.Test.YtnngiampfdjlfaaAppend
namespace Go.Proofs.Ytnngiampfdjlfaa
open Go.ChangeShapes Go.WideShapes Go.ChangeAt Go.RowKit
set_option linter.unusedVariables false

/-- The first k bytes of l, then zeros, n in all. -/
def fillI (l : List Int) (n k : Nat) : List Value := iv (l.take k) ++ List.replicate (n - k) (.int .i64 0)
theorem fillI_zero (l : List Int) (n : Nat) : fillI l n 0 = List.replicate n (.int .i64 0) := by simp [fillI, iv]
theorem fillI_full (l : List Int) (n : Nat) (h : l.length = n) : fillI l n n = iv l := by simp [fillI, ← h]
theorem fillI_set (l : List Int) (n k : Nat) (h : l.length = n) (hk : k < n) (u : Int) (hu : l[k]? = some u) : (fillI l n k).set k (.int .i64 u) = fillI l n (k + 1) := by
  have hkl : k < l.length := by omega
  have hb : (iv (l.take k)).length = k := by rw [iv_len, List.length_take]; omega
  unfold fillI
  rw [List.set_append_right _ _ (by omega), hb, Nat.sub_self]
  have e1 : n - k = (n - (k + 1)) + 1 := by omega
  rw [e1, List.replicate_succ, List.set_cons_zero]
  have e2 : l.take (k + 1) = l.take k ++ [u] := by rw [List.take_add_one, hu]; rfl
  rw [e2, iv_app]
  simp [iv]
theorem fillI_get (l : List Int) (n k : Nat) (h : l.length = n) (hk : k < n) : (fillI l n k)[k]? = some (.int .i64 0) := by
  have hb : (iv (l.take k)).length = k := by rw [iv_len, List.length_take]; omega
  unfold fillI
  rw [List.getElem?_append_right (by omega), hb, Nat.sub_self, List.getElem?_replicate, if_pos (by omega)]
theorem fillI_len (l : List Int) (n k : Nat) (h : l.length = n) (hk : k ≤ n) : (fillI l n k).length = n := by
  simp [fillI, iv_len]; omega

set_option maxHeartbeats 400000 in
theorem L_toIntS (A : Option Addr) (n c : Nat) (l : List Int) (w : World) (h : Rd w A n c (iv l)) (hn : n ≤ 1048576) :
    Calls Try.prog 31 #[.slice A n c] w fun e w' => Out 3 w (iv l) e w' := by
  obtain ⟨i0, hi0, hz0, hz1, hz2⟩ := info_parts info_i64
  have hll : l.length = n := by have := h.len; rwa [iv_len] at this
  have HL := Lib.hid hll
  have HZ2 := Lib.hid hz2
  clear hll hz2
  have hbd := h.bnd
  go_enter Try.func31, Try.ntmps31
  go_wp2_with (at_make; refine wpList_make_full _ rfl _ _ 27 rfl w.heap.size 3 i0 (.int .i64 0) 1 Try.underlying27 hi0 hz0 hz1 _ _ _ _ n rfl rfl rfl rfl ?q1 ?q2 ?q3 ?q4)
  case q1 => rw [HZ2.out]; omega
  case q2 => unfold maxLen; omega
  case q3 => exact Nat.le_refl _
  intro w1 hown hgrow
  have hb1 : Below w.heap.size w w1 := grown_below hgrow (fun k hk => by cases hk) (Nat.le_refl _)
  have hs1 : w.heap.size < w1.heap.size := by
    have := hown.lt w.heap.size rfl
    omega
  have HO := Lib.hid hown
  clear hown hgrow hi0 hz0 hz1
  go_wp2
  go_loopw [4] (fun i wr => ∃ k : Nat, k ≤ n ∧ i = .int .i64 k ∧ Hid (wr.ownsRow w.heap.size 3 1 (.slice (some ⟨w.heap.size, 0, none⟩) n n) n (fillI l n k)) ∧ Below w.heap.size w wr)
    (fun i _ => n - (intOf i).toNat)
  case atStart =>
    refine ⟨0, Nat.zero_le _, rfl, ?_, hb1⟩
    have := HO.out
    rw [fillI_zero, ← toList_madeCells_one]
    exact this
  case round =>
    obtain ⟨k, hk, rfl, HO1, hb⟩ := hrel
    by_cases hlt : k < n
    · obtain ⟨b, off, rfl, hlb, hcl⟩ := h.at_ (by omega)
      have hkl : k < l.length := by rw [HL.out]; exact hlt
      have hcs := (hb.cell (p := ⟨b, off + k, none⟩) hlb).trans (hcl k _ (iv_get hkl))
      have hco := (HO1.out.cellAt k (by omega)).trans (fillI_get l n k HL.out hlt)
      have hfo := HO1.out.frozenAt k
      have HS := Lib.hid (HO1.out.stored k (.int .i64 (l[k]'hkl)))
      have hlt' : (k : Int) < (n : Int) := by omega
      go_wp2
      go_roundw
      case rel =>
        refine ⟨k + 1, by omega, by go_num, ?_, hb.grown HS.out.2 hb.size (fun g hg => by injection hg with hg; omega)⟩
        have := HS.out.1
        rw [fillI_set l n k HL.out hlt _ (List.getElem?_eq_getElem hkl)] at this
        exact this
      case measure => simp [intOf]; omega
    · have hlt' : ¬ (k : Int) < (n : Int) := by omega
      go_wp2
      go_ret
      obtain rfl : k = n := by omega
      have hf := HO1.out
      rw [fillI_full l k HL.out] at hf
      exact ⟨_, _, _, rfl, Ow.of_own hf, hb⟩

end Go.Proofs.Ytnngiampfdjlfaa
