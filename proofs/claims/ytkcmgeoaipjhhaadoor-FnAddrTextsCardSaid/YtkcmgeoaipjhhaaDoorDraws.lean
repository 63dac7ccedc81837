/- Contracts of the Draw functions whose results the laws use. -/
import Derived.Test.YtkcmgeoaipjhhaaDoorDraw
namespace Go.Proofs.YtkcmgeoaipjhhaaDoor
open Go.ChangeShapes Go.WideShapes Go.ChangeAt Go.RowKit
set_option linter.unusedVariables false

/-- l1Int on a list that the caller lays. -/
theorem S_IntL (w0 w : World) (g : Nat) (A : Option Addr) (n c : Nat) (l : List UInt8) (zs : List Int) (d : Dn w0 w g A n c l) (h0 : 0 < zs.length) (h1 : zs.length ≤ 1000) :
    Calls Tryd.prog 47 #[.pointer (some ⟨g, 0, none⟩), .slice (some ⟨w.heap.size, 0, none⟩) zs.length zs.length] (w.alloc (.cells (iv zs).toArray 3)) fun e w' => Drew w0 w g A n c l (fun v _ => ∃ x : Int, v = .int .i64 x ∧ x ∈ zs) e w' := by
  have hB := balloc (Below.refl w.heap.size w) (.cells (iv zs).toArray 3)
  have hr : Rd (w.alloc (.cells (iv zs).toArray 3)) (some ⟨w.heap.size, 0, none⟩) zs.length zs.length (iv zs) := by
    have h : Rd (w.alloc (.cells (iv zs).toArray 3)) (some ⟨w.heap.size, 0, none⟩) zs.length zs.length (iv zs).toArray.toList := own_rd (World.ownsRow_lit w (iv zs).toArray zs.length (Nat.le_refl _) (by unfold maxLen; omega) (by simp [iv]))
    simpa using h
  have hg := d.lt
  refine (S_Int w0 _ g A n c l _ _ _ zs (d.below hB) hr h0 (fun b off e => by injection e with e; injection e with e; omega)).mono ?_
  rintro e w' ⟨v, rfl, hx, d', k'⟩
  exact ⟨v, rfl, hx, d', (Kp.of_below hB).trans k'⟩

end Go.Proofs.YtkcmgeoaipjhhaaDoor
