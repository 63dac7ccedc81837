/- Contract of the reference's l6Num: the decimal numeral of a number that is not negative. -/
import Derived.Test.YtkcmgeoaipjhhaaDoorTextA
import Derived.Lib.ItoaLen
import Derived.Test.YtkcmgeoaipjhhaaDoorLaw
namespace Go.Proofs.YtkcmgeoaipjhhaaDoor
open Go.ChangeShapes Go.WideShapes Go.ChangeAt Go.RowKit
set_option linter.unusedVariables false

/-- The numeral, but nothing for 0. -/
def dg0 (k : Nat) : List UInt8 := if k = 0 then [] else Lib.decDigits k
theorem dg0_step (k : Nat) (h : 0 < k) : dg0 k = dg0 (k / 10) ++ [UInt8.ofNat (48 + k % 10)] := by
  unfold dg0
  rw [if_neg (by omega), Lib.decDigits]
  split
  · rw [if_pos (by omega)]
    have : k % 10 = k := by omega
    rw [this]; rfl
  · rw [if_neg (by omega)]

theorem bapp (l m : List UInt8) : (⟨l.toArray⟩ : ByteArray) ++ (⟨m.toArray⟩ : ByteArray) = ⟨(l ++ m).toArray⟩ := by
  apply ByteArray.ext
  simp
theorem dg0_len (k : Nat) (h : k < 18446744073709551616) : (dg0 k).length ≤ 20 := by
  unfold dg0
  split
  · simp
  · rw [Lib.decDigits_length]; exact Lib.nDigits_le20 k h

set_option maxRecDepth 100000 in
set_option maxHeartbeats 1000000 in
theorem S_Num (n : Nat) (w : World) (hn : n ≤ 4294967295) :
    Calls Tryd.prog 40 #[.int .i64 (n : Int)] w fun e w' => e = .returned (.string ⟨(Lib.decDigits n).toArray⟩) ∧ Below w.heap.size w w' := by
  by_cases h0 : n = 0
  · subst h0
    have HE := Lib.hid (show Lib.decDigits 0 = [48] by rw [Lib.decDigits_one (by decide)]; rfl)
    go_enter Tryd.func40, Tryd.ntmps40
    go_wp2_with fail
    go_ret
    exact ⟨by rw [HE.out]; rfl, Below.refl _ _⟩
  have HD := Lib.hid (show dg0 n = Lib.decDigits n by rw [dg0, if_neg h0])
  have h0' : ((n : Int) == 0) = false := by rw [beq_eq_false_iff_ne]; omega
  clear h0
  go_enter Tryd.func40, Tryd.ntmps40
  go_wp2_with fail
  go_loopw [0, 3] (fun v s wr => ∃ (k : Nat) (t : List UInt8), v = .int .i64 (k : Int) ∧ k ≤ n ∧ s = .string ⟨t.toArray⟩ ∧ Hid (dg0 k ++ t = dg0 n) ∧ Below w.heap.size w wr)
    (fun v _ _ => (intOf v).toNat)
  case atStart => exact ⟨n, [], rfl, Nat.le_refl _, rfl, by show _ = _; simp, Below.refl _ _⟩
  case round =>
    obtain ⟨k, t, rfl, hk, rfl, HT, hb⟩ := hrel
    by_cases hlt : 0 < k
    · have hlt' : (0 : Int) < (k : Int) := by omega
      have HS := Lib.hid (dg0_step k hlt)
      have hv : (((UInt8.ofNat (48 + k % 10)).toNat : Nat) : Int) = 48 + (k : Int) % 10 := by simp; omega
      have hr1 : Rd (wr.alloc (.cells #[.int .u8 (48 + (k : Int) % 10)] 5)) (some ⟨wr.heap.size, 0, none⟩) 1 1 (bv [UInt8.ofNat (48 + k % 10)]) := by
        have h := rd_one wr 5 (.int .u8 (48 + (k : Int) % 10))
        have e : bv [UInt8.ofNat (48 + k % 10)] = [.int .u8 (48 + (k : Int) % 10)] := by simp only [bv, List.map_cons, List.map_nil]; rw [hv]
        rw [e]; exact h
      have hcv := conv_string (P := Tryd.prog) 28 9 5 Tryd.underlying28 Tryd.underlying5 Tryd.underlying9 _ 1 1 [UInt8.ofNat (48 + k % 10)] _ hr1
      have hb2 := balloc hb (.cells #[.int .u8 (48 + (k : Int) % 10)] 5)
      have htl : ¬ 9223372036854775807 < 1 + t.length := by have h1 := congrArg List.length HT.out; rw [List.length_append] at h1; have h2 := dg0_len n (by omega); omega
      generalize UInt8.ofNat (48 + k % 10) = d at *
      clear hv hr1
      go_wp2_with fail
      go_roundw
      case rel => exact ⟨k / 10, d :: t, by go_num, by omega, congrArg Value.string (bapp [d] t), by have h1 := HT.out; have h2 := HS.out; show _ = _; rw [← h1, h2]; simp, hb2⟩
      case measure => simp [intOf]; omega
    · have hk0 : k = 0 := by omega
      subst hk0
      have he : t = dg0 n := by have h1 := HT.out; simpa [dg0] using h1
      have HE := Lib.hid (he.trans HD.out)
      clear he
      go_wp2_with fail
      go_ret
      exact ⟨by rw [← HE.out]; rfl, hb⟩

end Go.Proofs.YtkcmgeoaipjhhaaDoor
