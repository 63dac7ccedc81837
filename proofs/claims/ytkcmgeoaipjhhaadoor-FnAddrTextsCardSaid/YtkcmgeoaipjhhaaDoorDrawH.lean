/- Contracts of the drawing functions that part: l1Once, l1Odd, DrawRot, DrawAdd32, DrawPad, DrawPutN. -/
import Derived.Test.YtkcmgeoaipjhhaaDoorDraws
namespace Go.Proofs.YtkcmgeoaipjhhaaDoor
open Go.ChangeShapes Go.WideShapes Go.ChangeAt Go.RowKit
set_option linter.unusedVariables false

/-- A 64-bit integer. -/
def I64 (x : Int) : Prop := -9223372036854775808 ≤ x ∧ x ≤ 9223372036854775807

theorem S_Once (w0 w : World) (g : Nat) (A : Option Addr) (n c : Nat) (l : List UInt8) (m : Int) (d : Dn w0 w g A n c l) :
    Calls Tryd.prog 53 #[.pointer (some ⟨g, 0, none⟩), .int .i64 m] w fun e w' => Drew w0 w g A n c l (fun v _ => ∃ b : Bool, v = .bool b) e w' := by
  go_enter Tryd.func53, Tryd.ntmps53
  go_wp2_with fail
  refine (S_Below w0 w g A n c l m d).mono ?_
  rintro e W1 ⟨v, rfl, ⟨x, rfl, hx⟩, d1, k1⟩
  go_wp2_with fail
  go_ret
  exact ⟨_, rfl, ⟨_, rfl⟩, d1, k1⟩

theorem S_Odd (w0 w : World) (g : Nat) (A : Option Addr) (n c : Nat) (l : List UInt8) (d : Dn w0 w g A n c l) :
    Calls Tryd.prog 46 #[.pointer (some ⟨g, 0, none⟩)] w fun e w' => Drew w0 w g A n c l (fun v _ => ∃ x : Int, v = .int .i64 x ∧ I64 x) e w' := by
  go_enter Tryd.func46, Tryd.ntmps46
  go_wp2_with fail
  refine (S_IntL w0 w g A n c l [-1, 0, 1, 2, 255, 256, 65535, 2147483647, 2147483648, 4294967295, 4294967296, -2147483648, 9223372036854775807, -9223372036854775808] d (by decide) (by decide)).mono ?_
  rintro e W1 ⟨v, rfl, ⟨x, rfl, hx⟩, d1, k1⟩
  go_wp2_with fail
  go_ret
  refine ⟨_, rfl, ⟨_, rfl, ?_⟩, d1, k1⟩
  simp at hx
  unfold I64
  omega

end Go.Proofs.YtkcmgeoaipjhhaaDoor
