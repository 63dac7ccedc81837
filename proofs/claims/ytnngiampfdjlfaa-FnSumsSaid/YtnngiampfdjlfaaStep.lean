/- The built-in append at a step of a region that draws its order. -/
import Derived.Test.YtnngiampfdjlfaaAppend
import Derived.BigRegion
import Derived.Deep.RegionLaw
namespace Go.Proofs.Ytnngiampfdjlfaa
open Go.ChangeShapes Go.WideShapes Go.ChangeAt Go.RowKit
set_option linter.unusedVariables false

/-- The same at a step of a region that draws its order: for 'go_region_law'. -/
theorem step_append_bytes (w : World) {ops : Array Oper} {o : Oper} {a : Act} {K : Act → World → Prop} {Q : Exit → Act → World → Prop} {E : Prop} (hgd : o.guard = none) (s x : Operand)
    (ho : o.op = .call { callee := .builtin .append, args := #[s, x], argTypes := #[22, 22] }) (base : Nat)
    (A0 : Option Addr) (n c0 : Nat) (xs : List UInt8) (hs : a.eval s = .slice A0 n c0) (hown : Hid (w.ownsRow base 5 1 (.slice A0 n c0) n (bv xs)))
    (A : Option Addr) (m c : Nat) (news : List UInt8) (hx : a.eval x = .slice A m c) (hr : Rd w A m c (bv news))
    (hnm : n + m ≤ 70368744177664) (hbase : base ≤ w.heap.size)
    (h : ∀ A' c' w', Hid (w'.ownsRow base 5 1 (.slice A' (n + m) c') (n + m) (bv (xs ++ news))) → Below base w w' → K (a.put o.dst (.slice A' (n + m) c')) w') :
    if Region.wanted o (yielded ops a.tmps) = true then Oper.wp Try.prog o a w K Q else E := by
  have hw : Region.wanted o (yielded ops a.tmps) = true := by simp [Region.wanted, hgd]
  rw [if_pos hw]
  obtain ⟨i0, hi0, hz0, hz1, hz2⟩ := info_parts info_u8
  exact wp_append_rd w s x 22 ho base 5 i0 (.int .u8 0) 1 Try.underlying22 hi0 hz0 hz1 hz2 rfl A0 n c0 _ hs hown.out A m c _ hx hr (bv_one _) (by unfold maxLen; omega) (by omega) hbase fun A' c' w' h2 h3 => h A' c' w' (by rw [bv_app]; exact h2) h3

/-- The same at a step of a region that draws its order: for 'go_region_law'. -/
theorem step_append_ints (w : World) {ops : Array Oper} {o : Oper} {a : Act} {K : Act → World → Prop} {Q : Exit → Act → World → Prop} {E : Prop} (hgd : o.guard = none) (s x : Operand)
    (ho : o.op = .call { callee := .builtin .append, args := #[s, x], argTypes := #[27, 27] }) (base : Nat)
    (A0 : Option Addr) (n c0 : Nat) (xs : List Int) (hs : a.eval s = .slice A0 n c0) (hown : Hid (w.ownsRow base 3 1 (.slice A0 n c0) n (iv xs)))
    (A : Option Addr) (m c : Nat) (news : List Int) (hx : a.eval x = .slice A m c) (hr : Rd w A m c (iv news))
    (hnm : n + m ≤ 70368744177664 / 8) (hbase : base ≤ w.heap.size)
    (h : ∀ A' c' w', Hid (w'.ownsRow base 3 1 (.slice A' (n + m) c') (n + m) (iv (xs ++ news))) → Below base w w' → K (a.put o.dst (.slice A' (n + m) c')) w') :
    if Region.wanted o (yielded ops a.tmps) = true then Oper.wp Try.prog o a w K Q else E := by
  have hw : Region.wanted o (yielded ops a.tmps) = true := by simp [Region.wanted, hgd]
  rw [if_pos hw]
  obtain ⟨i0, hi0, hz0, hz1, hz2⟩ := info_parts info_i64
  exact wp_append_rd w s x 27 ho base 3 i0 (.int .i64 0) 8 Try.underlying27 hi0 hz0 hz1 hz2 rfl A0 n c0 _ hs hown.out A m c _ hx hr (iv_one _) (by unfold maxLen; omega) (by omega) hbase fun A' c' w' h2 h3 => h A' c' w' (by rw [iv_app]; exact h2) h3

end Go.Proofs.Ytnngiampfdjlfaa
