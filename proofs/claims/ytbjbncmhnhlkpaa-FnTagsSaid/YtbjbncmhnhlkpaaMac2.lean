/- Contract of masked (the program). -/
import Derived.Test.YtbjbncmhnhlkpaaMacM
import Derived.Test.YtbjbncmhnhlkpaaStepG
namespace Go.Proofs.Ytbjbncmhnhlkpaa
open Go.ChangeShapes Go.WideShapes Go.ChangeAt Go.RowKit
set_option linter.unusedVariables false

theorem maskL_take (l : List UInt8) (x : UInt8) (k : Nat) (h : k < l.length) : maskL (l.take (k + 1)) x = maskL (l.take k) x ++ [l[k] ^^^ x] := by
  rw [List.take_add_one, List.getElem?_eq_getElem h, maskL, maskL, List.map_append]; rfl
theorem rd_xor (w : World) (t : TypeId) (y x : UInt8) : Rd (w.alloc (.cells #[.int .u8 ((y.toNat ^^^ x.toNat : Nat) : Int)] t)) (some ⟨w.heap.size, 0, none⟩) 1 1 (bv [y ^^^ x]) := by
  have h := rd_one w t (.int .u8 ((y.toNat ^^^ x.toNat : Nat) : Int))
  simpa [bv, UInt8.toNat_xor] using h

theorem I_masked (A : Option Addr) (N c : Nat) (l : List UInt8) (x : UInt8) (w : World) (h : Rd w A N c (bv l)) (hN : N ≤ 4000000) :
    Calls Try.prog 68 #[.slice A N c, .int .u8 ((x.toNat : Nat) : Int)] w fun e w' => Out 5 w (bv (maskL l x)) e w' := by
  have hl : l.length = N := by have := h.len; rwa [bv_len] at this
  have HL := Lib.hid hl
  have hbd := h.bnd
  clear hl
  go_enter Try.func68, Try.ntmps68
  go_wp2_with fail
  go_loopw [5, 11] (fun v i wr => ∃ (k c' : Nat) (A' : Option Addr), v = .slice A' k c' ∧ i = .int .i64 k ∧ k ≤ N ∧
      Hid (wr.ownsRow w.heap.size 5 1 (.slice A' k c') k (bv (maskL (l.take k) x))) ∧ Below w.heap.size w wr)
    (fun _ i _ => N - (intOf i).toNat)
  case atStart => exact ⟨0, 0, _, rfl, rfl, by omega, own_empty w _, balloc (Below.refl _ _) _⟩
  case round =>
    obtain ⟨k, c', A', rfl, rfl, hk, HO, hb⟩ := hrel
    by_cases hlt : k < N
    · have hlt' : (k : Int) < (N : Int) := by omega
      obtain ⟨b, off, rfl, hlb, hcl⟩ := h.at_ (by omega)
      have hkl : k < l.length := by have := HL.out; omega
      have fc := (bcell hb b (off + k) hlb).trans (hcl k _ (bv_get hkl))
      have HF := Lib.hid (maskL_take l x k hkl)
      generalize l[k] = y at *
      have HOA := Lib.hid (HO.out.alloc (.cells #[.int .u8 ((y.toNat ^^^ x.toNat : Nat) : Int)] 5))
      have hr1 := rd_xor wr 5 y x
      have q5 : k + 1 ≤ 70368744177664 := by omega
      have q6 : ∀ o, w.heap.size ≤ (wr.alloc o).heap.size := fun o => by have := hb.size; simp; omega
      clear hcl hkl
      go_wp2_with (at_builtin; refine append_bytes _ rfl _ _ rfl w.heap.size _ _ _ _ rfl HOA _ _ _ [y ^^^ x] rfl hr1 q5 (q6 _) ?_; intro A1 c1 W1 HO1 hb1)
      have ho1 := HO1.out
      rw [← HF.out] at ho1
      have B1 := (hb.alloc hb.size (.cells #[.int .u8 ((y.toNat ^^^ x.toNat : Nat) : Int)] 5)).trans hb1
      go_roundw
      case rel => exact ⟨k + 1, c1, A1, rfl, by go_num, by omega, ho1, B1⟩
      case measure => simp [intOf]; omega
    · have hlt' : ¬ (k : Int) < (N : Int) := by omega
      have ho8 := HO.out
      rw [show l.take k = l from List.take_of_length_le (by have := HL.out; omega)] at ho8
      have HO8 := Ow.of_own ho8
      go_wp2_with fail
      exact bodyPost_ret (v := .slice A' k c') (by simp [results, Try.results68, go_sem]) rfl ⟨_, _, _, rfl, HO8, hb⟩

end Go.Proofs.Ytbjbncmhnhlkpaa
