/- Contracts of the Draw functions whose results the laws use. -/
import Derived.Test.YtnngiampfdjlfaaDraw
namespace Go.Proofs.Ytnngiampfdjlfaa
open Go.ChangeShapes Go.WideShapes Go.ChangeAt Go.RowKit
set_option linter.unusedVariables false

/-- l1Int on a list that the caller lays. -/
theorem S_IntL (w0 w : World) (g : Nat) (A : Option Addr) (n c : Nat) (l : List UInt8) (zs : List Int) (d : Dn w0 w g A n c l) (h0 : 0 < zs.length) (h1 : zs.length ≤ 1000) :
    Calls Try.prog 41 #[.pointer (some ⟨g, 0, none⟩), .slice (some ⟨w.heap.size, 0, none⟩) zs.length zs.length] (w.alloc (.cells (iv zs).toArray 3)) fun e w' => Drew w0 w g A n c l (fun v _ => ∃ x : Int, v = .int .i64 x ∧ x ∈ zs) e w' := by
  have hB := balloc (Below.refl w.heap.size w) (.cells (iv zs).toArray 3)
  have hr : Rd (w.alloc (.cells (iv zs).toArray 3)) (some ⟨w.heap.size, 0, none⟩) zs.length zs.length (iv zs) := by
    have h : Rd (w.alloc (.cells (iv zs).toArray 3)) (some ⟨w.heap.size, 0, none⟩) zs.length zs.length (iv zs).toArray.toList := own_rd (World.ownsRow_lit w (iv zs).toArray zs.length (Nat.le_refl _) (by unfold maxLen; omega) (by simp [iv]))
    simpa using h
  have hg := d.lt
  refine (S_Int w0 _ g A n c l _ _ _ zs (d.below hB) hr h0 (fun b off e => by injection e with e; injection e with e; omega)).mono ?_
  rintro e w' ⟨v, rfl, hx, d', k'⟩
  exact ⟨v, rfl, hx, d', (Kp.of_below hB).trans k'⟩

set_option maxHeartbeats 1000000 in
theorem S_DrawSha (A : Option Addr) (n c : Nat) (l : List UInt8) (w : World) (h : Rd w A n c (bv l)) :
    Calls Try.prog 19 #[.slice A n c] w fun e w' => ∃ (Aa : Option Addr) (na ca : Nat) (ra : List UInt8), e = .returned (.slice Aa na ca) ∧ (Ow w' 5 Aa na ca w.heap.size w'.heap.size (bv ra) ∧ ra.length ≤ 150) ∧ Below w.heap.size w w' := by
  go_enter Try.func19, Try.ntmps19
  go_wp2_with fail
  refine (S_New A n c l w h).mono ?_
  rintro e W1 ⟨rfl, d1, b1⟩
  clear b1
  go_wp2_with fail
  refine (S_IntL w W1 w.heap.size A n c l [0, 3, 54, 55, 56, 57, 63, 64, 65, 119, 120, 150] d1 (by decide) (by decide)).mono ?_
  rintro e W2 ⟨v, rfl, ⟨xa, rfl, hxa⟩, d2, k2⟩
  have gxa : xa ≤ 150 := by simp at hxa; omega
  go_wp2_with fail
  refine (S_Bytes w W2 w.heap.size A n c l xa d2 (by omega)).mono ?_
  rintro e W3 ⟨v, rfl, ⟨Aa, na, ca, ra, rfl, oa, la⟩, d3, k3⟩
  go_wp2_with fail
  have s1 := d1.bel.size
  have s2 := k2.size
  have s3 := k3.size
  exact bodyPost_ret (v := .slice Aa na ca) (by simp [results, Try.results19, go_sem]) rfl ⟨Aa, na, ca, ra, rfl, ⟨(oa.less d2.bel.size).more (by omega), by omega⟩, d3.bel⟩

end Go.Proofs.Ytnngiampfdjlfaa
