/- Contract of l1Bend (package spec): some bytes, at most one more than it is handed. -/
import Derived.Test.YtnngiampfdjlfaaDraws
import Derived.Deep.RegionHeld3
import Derived.Deep.RegionWith
namespace Go.Proofs.Ytnngiampfdjlfaa
open Go.ChangeShapes Go.WideShapes Go.ChangeAt Go.RowKit
set_option linter.unusedVariables false

theorem own_form {w : World} {t : TypeId} {A : Option Addr} {n c lo : Nat} {xs : List Value} (h : w.ownsRow lo t 1 (.slice A n c) n xs) (hn : 0 < n) : ∃ g, A = some ⟨g, 0, none⟩ := by
  rcases h.2 with ⟨hv, h0⟩ | ⟨g, cap, cur, hv, _⟩
  · omega
  · injection hv with h1 h2 h3; exact ⟨g, h1⟩
theorem Ow.pre {w : World} {t : TypeId} {A : Option Addr} {n c lo hi m : Nat} {xs : List Value} (h : Ow w t A n c lo hi xs) (hm : m ≤ n) : Ow w t A m c lo hi (xs.take m) := by
  have hl := h.own.1
  refine ⟨⟨by rw [List.length_take]; omega, ?_⟩, fun k hk => h.lt k (by cases A <;> exact hk)⟩
  rcases h.own.2 with ⟨hv, h0⟩ | ⟨g, cap, cur, hv, hb, hh, hn, hc, hs, ht⟩
  · injection hv with h1 h2 h3
    exact .inl ⟨by rw [h1, h3, show m = 0 by omega], by omega⟩
  · injection hv with h1 h2 h3
    exact .inr ⟨g, cap, cur, by rw [h1, h3], hb, hh, by omega, hc, hs, by rw [← ht, List.take_take]; congr 1; omega⟩
theorem xor_byte (y : UInt8) (x : Int) (h : 0 ≤ x ∧ x < 256) : bits .xor .u8 ((y.toNat : Nat) : Int) x = (((y ^^^ UInt8.ofNat x.toNat).toNat : Nat) : Int) := by
  have e : x = (((UInt8.ofNat x.toNat).toNat : Nat) : Int) := by rw [UInt8.toNat_ofNat']; omega
  conv => lhs; rw [e]
  rw [xor_u8, UInt8.toNat_xor]
theorem wrap_z (y : UInt8) (z : Int) (h0 : 0 ≤ z) (h1 : z < 255) : IntKind.i64.wrap (1 + z) = 1 + z ∧ IntKind.u8.wrap (1 + z) = 1 + z ∧ ∃ Z : UInt8, bits .xor .u8 ((y.toNat : Nat) : Int) (1 + z) = ((Z.toNat : Nat) : Int) :=
  ⟨by rw [IntKind.wrap_i64]; omega, by rw [IntKind.wrap_u8]; omega, _, xor_byte y (1 + z) ⟨by omega, by omega⟩⟩
theorem bv_set (r : List UInt8) (k : Nat) (z : UInt8) : (bv r).set k (.int .u8 ((z.toNat : Nat) : Int)) = bv (r.set k z) := by simp [bv, List.map_set]
end Go.Proofs.Ytnngiampfdjlfaa
