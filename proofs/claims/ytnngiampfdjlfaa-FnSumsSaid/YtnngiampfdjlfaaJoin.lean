/- Contract of joined: up to three slices of bytes, one after another. -/
import Derived.Test.YtnngiampfdjlfaaAppend
namespace Go.Proofs.Ytnngiampfdjlfaa
open Go.ChangeShapes Go.WideShapes Go.ChangeAt Go.RowKit
set_option linter.unusedVariables false

theorem flat_take (ls : List (List UInt8)) (k : Nat) (l : List UInt8) (h : ls[k]? = some l) : (ls.take (k + 1)).flatten = (ls.take k).flatten ++ l := by
  rw [List.take_add_one, h, List.flatten_append]
  simp

theorem I_joined (T : Option Addr) (n c : Nat) (vs : List Value) (ls : List (List UInt8)) (w : World) (h : Rd w T n c vs) (hn : n ≤ 3) (hls : ls.length = n)
    (hv : ∀ (j : Nat) (l : List UInt8), ls[j]? = some l → ∃ A m d, vs[j]? = some (Value.slice A m d) ∧ Rd w A m d (bv l) ∧ m ≤ 4000000) :
    Calls Try.prog 34 #[.slice T n c] w fun e w' => Out 5 w (bv ls.flatten) e w' := by
  have HLS := Lib.hid hls
  have HV := Lib.hid hv
  have hbd := h.bnd
  clear hls hv
  go_enter Try.func34, Try.ntmps34
  go_wp2_with fail
  go_loopw [3, 9] (fun v i wr => ∃ (k m c' : Nat) (A' : Option Addr), v = .slice A' m c' ∧ i = .int .i64 k ∧ k ≤ n ∧ m ≤ 4000000 * k ∧
      Hid (wr.ownsRow w.heap.size 5 1 (.slice A' m c') m (bv (ls.take k).flatten)) ∧ Below w.heap.size w wr)
    (fun _ i _ => n - (intOf i).toNat)
  case atStart => exact ⟨0, 0, 0, _, rfl, rfl, by omega, by omega, own_empty w _, balloc (Below.refl _ _) _⟩
  case round =>
    obtain ⟨k, m, c', A', rfl, rfl, hk, hm, HO, hb⟩ := hrel
    have hmb := (own_rd HO.out).bnd
    by_cases hlt : k < n
    · have hlt' : (k : Int) < (n : Int) := by omega
      obtain ⟨b, off, rfl, hlb, hcl⟩ := h.at_ (by omega)
      obtain ⟨l, hl⟩ : ∃ l, ls[k]? = some l := by
        have := HLS.out
        exact ⟨ls[k]'(by omega), List.getElem?_eq_getElem (by omega)⟩
      obtain ⟨A, p, d, hvk, hrd, hp⟩ := HV.out k l hl
      have fc := (bcell hb b (off + k) hlb).trans (hcl k _ hvk)
      have hr2 := hrd.below hb (Nat.le_refl _)
      have HF := Lib.hid (flat_take ls k l hl)
      clear hcl hl hvk hrd
      have q5 : m + p ≤ 70368744177664 := by omega
      have q6 := hb.size
      go_wp2_with (at_builtin; refine append_bytes _ rfl _ _ rfl w.heap.size _ _ _ _ rfl HO _ _ _ l rfl hr2 q5 q6 ?_; intro A1 c1 W1 HO1 hb1)
      have ho1 := HO1.out
      rw [← HF.out] at ho1
      have B1 := hb.trans hb1
      go_roundw
      case rel => exact ⟨k + 1, m + p, c1, A1, rfl, by go_num, by omega, by omega, ho1, B1⟩
      case measure => simp [intOf]; omega
    · have hlt' : ¬ (k : Int) < (n : Int) := by omega
      obtain rfl : k = n := by omega
      have HO8 := Ow.of_own HO.out
      rw [← HLS.out, List.take_length] at HO8
      go_wp2_with fail
      exact bodyPost_ret (v := .slice A' m c') (by simp [results, Try.results34, go_sem]) rfl ⟨_, _, _, rfl, HO8, hb⟩

/-- Two parts, laid by the caller. -/
theorem I_joined2 (A B : Option Addr) (n c m d : Nat) (l k : List UInt8) (w : World) (t : TypeId) (h1 : Rd w A n c (bv l)) (h2 : Rd w B m d (bv k)) (hn : n ≤ 4000000) (hm : m ≤ 4000000) :
    Calls Try.prog 34 #[.slice (some ⟨w.heap.size, 0, none⟩) 2 2] (w.alloc (.cells #[.slice A n c, .slice B m d] t)) fun e w' => Out 5 w (bv (l ++ k)) e w' := by
  have hr := rd_two w t (.slice A n c) (.slice B m d)
  have hv : ∀ (j : Nat) (x : List UInt8), [l, k][j]? = some x → ∃ A' m' d', [Value.slice A n c, Value.slice B m d][j]? = some (Value.slice A' m' d') ∧ Rd (w.alloc (.cells #[.slice A n c, .slice B m d] t)) A' m' d' (bv x) ∧ m' ≤ 4000000 := by
    intro j x hx
    match j, hx with
    | 0, hx =>
      injection hx with hx
      subst hx
      exact ⟨A, n, c, rfl, h1.alloc _, hn⟩
    | 1, hx =>
      injection hx with hx
      subst hx
      exact ⟨B, m, d, rfl, h2.alloc _, hm⟩
  have C := I_joined _ 2 2 _ [l, k] _ hr (by omega) rfl hv
  refine C.mono ?_
  rintro e w' ⟨A', n', c', he, ho, hb⟩
  have hs : w.heap.size ≤ (w.alloc (.cells #[.slice A n c, .slice B m d] t)).heap.size := by simp
  have hf : [l, k].flatten = l ++ k := by simp
  rw [hf] at ho
  exact ⟨A', n', c', he, ho.less hs, bnext (balloc (Below.refl w.heap.size w) _) hb⟩

end Go.Proofs.Ytnngiampfdjlfaa
