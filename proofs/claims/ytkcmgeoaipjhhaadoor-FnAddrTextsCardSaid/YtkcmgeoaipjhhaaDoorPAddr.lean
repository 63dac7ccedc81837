/- Contracts of PutAddr and GetAddr (reference and program): an address as 6 bytes behind a slice, and read again. -/
import Derived.Test.YtkcmgeoaipjhhaaDoorPutN
import Derived.Test.YtkcmgeoaipjhhaaDoorGetN
import Derived.Test.YtkcmgeoaipjhhaaDoorAddr
import Derived.Test.YtkcmgeoaipjhhaaDoorClone
import Derived.Deep.RegionHeld3
import Derived.Deep.Cut
namespace Go.Proofs.YtkcmgeoaipjhhaaDoor
open Go.ChangeShapes Go.WideShapes Go.ChangeAt Go.RowKit
set_option linter.unusedVariables false

/-- PutAddr of the program. -/
def putAd (l : List UInt8) (a b : Int) : List UInt8 := if okAd a b = true then putN (putN l a 4) b 2 else l
theorem putAd_len (l : List UInt8) (a b : Int) : (putAd l a b).length ≤ l.length + 12 := by
  unfold putAd
  split
  · have h1 := putN_len l a 4
    have h2 := putN_len (putN l a 4) b 2
    omega
  · omega

set_option maxHeartbeats 400000 in
theorem I_PutAddr (A : Option Addr) (N c : Nat) (l : List UInt8) (a b : Int) (w : World) (h : Rd w A N c (bv l)) (hN : N ≤ 60000000000000) :
    Calls Tryd.prog 12 #[.slice A N c, .agg #[.int .i64 a, .int .i64 b]] w fun e w' => Out 5 w (bv (putAd l a b)) e w' := by
  have hbd := h.bnd
  have hl : l.length = N := by have := h.len; rwa [bv_len] at this
  cases hok : okAd a b with
  | true =>
    have HP := Lib.hid (show putAd l a b = putN (putN l a 4) b 2 by rw [putAd, if_pos hok])
    have C := Lib.hid fun W => (I_AddrOk a b W).mono fun e w' hh => (⟨by rw [hh.1, hok], hh.2⟩ : e = .returned (.bool true) ∧ Below W.heap.size W w')
    clear hok
    rw [HP.out]
    go_enter Tryd.func12, Tryd.ntmps12
    go_wp2_with fail
    refine (C.out _).mono ?_
    rintro e W1 ⟨rfl, b1⟩
    have hc0 : W1.cell? ⟨w.heap.size, 0, none⟩ = some (.int .i64 a) := (b1.cell (by simp)).trans (by simp [go_sem])
    have hc1 : W1.cell? ⟨w.heap.size, 1, none⟩ = some (.int .i64 b) := (b1.cell (by simp)).trans (by simp [go_sem])
    have hs1 : w.heap.size < W1.heap.size := by have := b1.size; simp at this; omega
    have B := bnext (balloc (Below.refl _ _) _) b1
    have hr1 := h.below B (Nat.le_refl _)
    have hq1 : N ≤ 70000000000000 := by omega
    have hq2 : (putN l a 4).length ≤ N + 6 := by have := putN_len l a 4; omega
    go_wp2_with fail
    go_region_held3 (fun w' => w'.cell? ⟨w.heap.size, 0, none⟩ = some (.int .i64 a) ∧ w'.cell? ⟨w.heap.size, 1, none⟩ = some (.int .i64 b)) (first | exact ⟨hc0, hc1⟩ | exact ⟨hd0, hd1⟩ | exact ⟨he0, he1⟩)
      (first
        | (go_at_call_of 33 (Value.slice A N c); refine (I_PutN A N c l a 4 _ ?_ hq1).mono ?_; (first | exact hr1 | exact hr1.drewN _ | exact hr1.drew); rintro e W2 ⟨A2, n2, c2, rfl, o2, b2⟩; have hd0 := (b2.cell (p := ⟨w.heap.size, 0, none⟩) hs1).trans hc0; have hd1 := (b2.cell (p := ⟨w.heap.size, 1, none⟩) hs1).trans hc1)
        | (go_at_call 33; refine (I_PutN A2 n2 c2 (putN l a 4) b 2 _ ?_ ?_).mono ?_; (first | exact o2.rd | exact o2.rd.drewN _ | exact o2.rd.drew); (have h1 := o2.rd.len; rw [bv_len] at h1; omega); rintro e W3 ⟨A3, n3, c3, rfl, o3, b3⟩; have he0 := (b3.cell (p := ⟨w.heap.size, 0, none⟩) (Nat.lt_of_lt_of_le hs1 b2.size)).trans hd0; have he1 := (b3.cell (p := ⟨w.heap.size, 1, none⟩) (Nat.lt_of_lt_of_le hs1 b2.size)).trans hd1))
    have B2 := bnext (bdrew B) b2
    have B3 := bnext B2 b3
    have s2 := B2.size
    go_wp2
    go_ret
    exact ⟨_, _, _, rfl, o3.less (by omega), B3⟩
  | false =>
    have HP := Lib.hid (show putAd l a b = l by rw [putAd, if_neg (by simp [hok])])
    have C := Lib.hid fun W => (I_AddrOk a b W).mono fun e w' hh => (⟨by rw [hh.1, hok], hh.2⟩ : e = .returned (.bool false) ∧ Below W.heap.size W w')
    clear hok
    rw [HP.out]
    go_enter Tryd.func12, Tryd.ntmps12
    go_wp2_with fail
    refine (C.out _).mono ?_
    rintro e W1 ⟨rfl, b1⟩
    have hs1 : w.heap.size < W1.heap.size := by have := b1.size; simp at this; omega
    have B := bnext (balloc (Below.refl _ _) _) b1
    have hr1 := h.below B (Nat.le_refl _)
    go_wp2_with fail
    refine (I_clone _ _ _ l _ hr1 (by omega)).mono ?_
    rintro e W2 ⟨A2, n2, c2, rfl, o2, b2⟩
    go_wp2_with fail
    go_ret
    exact ⟨_, _, _, rfl, o2.less (by omega), bnext B b2⟩

/-- The 6 bytes of an address exist at an offset. -/
def gaB (l : List UInt8) (i : Int) : Bool := getB l i 4 && getB l (getE l i 4) 2
def gaH (l : List UInt8) (i : Int) : Int := if gaB l i = true then getN l i 4 else 0
def gaP (l : List UInt8) (i : Int) : Int := if gaB l i = true then getN l (getE l i 4) 2 else 0
def gaE (l : List UInt8) (i : Int) : Int := if gaB l i = true then getE l (getE l i 4) 2 else 0

theorem I_GetAddr (A : Option Addr) (N c : Nat) (l : List UInt8) (i : Int) (w : World) (h : Rd w A N c (bv l)) (hN : N ≤ 70368744177664) :
    Calls Tryd.prog 17 #[.slice A N c, .int .i64 i] w fun e w' => e = .returned (.tuple #[.agg #[.int .i64 (gaH l i), .int .i64 (gaP l i)], .int .i64 (gaE l i), .bool (gaB l i)]) ∧ Below w.heap.size w w' := by
  have hbd := h.bnd
  have B0 := balloc (Below.refl _ w) (.cells #[.int .i64 0, .int .i64 0] 23)
  cases h1 : getB l i 4 with
  | true =>
    have C1 := Lib.hid fun W (hh : Rd W A N c (bv l)) => (I_GetN A N c l i 4 W hh hN).mono fun e w' h' => (⟨by rw [h'.1, h1], h'.2⟩ : e = .returned (.tuple #[.int .i64 (getN l i 4), .int .i64 (getE l i 4), .bool true]) ∧ Below W.heap.size W w')
    cases h2 : getB l (getE l i 4) 2 with
    | true =>
      have C2 := Lib.hid fun W (hh : Rd W A N c (bv l)) => (I_GetN A N c l (getE l i 4) 2 W hh hN).mono fun e w' h' => (⟨by rw [h'.1, h2], h'.2⟩ : e = .returned (.tuple #[.int .i64 (getN l (getE l i 4) 2), .int .i64 (getE l (getE l i 4) 2), .bool true]) ∧ Below W.heap.size W w')
      have hg : gaB l i = true := by simp [gaB, h1, h2]
      have HQ := Lib.hid (show gaH l i = getN l i 4 ∧ gaP l i = getN l (getE l i 4) 2 ∧ gaE l i = getE l (getE l i 4) 2 ∧ gaB l i = true from ⟨by rw [gaH, if_pos hg], by rw [gaP, if_pos hg], by rw [gaE, if_pos hg], hg⟩)
      clear hg h1 h2
      go_enter Tryd.func17, Tryd.ntmps17
      go_wp2_with fail
      refine (C1.out _ (h.below B0 (Nat.le_refl _))).mono ?_
      rintro e W1 ⟨rfl, b1⟩
      have B1 := bnext B0 b1
      go_wp2_with fail
      refine (C2.out _ (h.below B1 (Nat.le_refl _))).mono ?_
      rintro e W2 ⟨rfl, b2⟩
      have B2 := bnext B1 b2
      have hc0 : W2.cell? ⟨w.heap.size, 0, none⟩ = some (.int .i64 0) := (b2.cell (by have := b1.size; simp at this; simp; omega)).trans ((b1.cell (by simp)).trans (by simp [go_sem]))
      have hc1 : W2.cell? ⟨w.heap.size, 1, none⟩ = some (.int .i64 0) := (b2.cell (by have := b1.size; simp at this; simp; omega)).trans ((b1.cell (by simp)).trans (by simp [go_sem]))
      have hf : ∀ o, W2.frozen? ⟨w.heap.size, o, none⟩ = false := fun o => (b2.frozen (by have := b1.size; simp at this; simp; omega)).trans ((b1.frozen (by simp)).trans (by simp [go_sem]))
      have hsz : w.heap.size < W2.heap.size := by have := b1.size; have := b2.size; simp at *; omega
      go_wp2_with fail
      refine bodyPost_ret (v := .tuple #[.agg #[.int .i64 (getN l i 4), .int .i64 (getN l (getE l i 4) 2)], .int .i64 (getE l (getE l i 4) 2), .bool true]) (by simp [results, Tryd.results17, go_sem, hc0, hc1]) rfl ⟨by rw [HQ.out.1, HQ.out.2.1, HQ.out.2.2.1, HQ.out.2.2.2], ?_⟩
      repeat (first | exact B2 | refine Below.setCell ?_ (by simp) _)
    | false =>
      have C2 := Lib.hid fun W (hh : Rd W A N c (bv l)) => (I_GetN A N c l (getE l i 4) 2 W hh hN).mono fun e w' h' => (⟨by rw [h'.1, h2], h'.2⟩ : e = .returned (.tuple #[.int .i64 (getN l (getE l i 4) 2), .int .i64 (getE l (getE l i 4) 2), .bool false]) ∧ Below W.heap.size W w')
      have hg : ¬ gaB l i = true := by simp [gaB, h2]
      have HQ := Lib.hid (show gaH l i = 0 ∧ gaP l i = 0 ∧ gaE l i = 0 ∧ gaB l i = false from ⟨by rw [gaH, if_neg hg], by rw [gaP, if_neg hg], by rw [gaE, if_neg hg], by simpa using hg⟩)
      clear hg h1 h2
      go_enter Tryd.func17, Tryd.ntmps17
      go_wp2_with fail
      refine (C1.out _ (h.below B0 (Nat.le_refl _))).mono ?_
      rintro e W1 ⟨rfl, b1⟩
      have B1 := bnext B0 b1
      go_wp2_with fail
      refine (C2.out _ (h.below B1 (Nat.le_refl _))).mono ?_
      rintro e W2 ⟨rfl, b2⟩
      have B2 := bnext B1 b2
      have hc0 : W2.cell? ⟨w.heap.size, 0, none⟩ = some (.int .i64 0) := (b2.cell (by have := b1.size; simp at this; simp; omega)).trans ((b1.cell (by simp)).trans (by simp [go_sem]))
      have hc1 : W2.cell? ⟨w.heap.size, 1, none⟩ = some (.int .i64 0) := (b2.cell (by have := b1.size; simp at this; simp; omega)).trans ((b1.cell (by simp)).trans (by simp [go_sem]))
      have hf : ∀ o, W2.frozen? ⟨w.heap.size, o, none⟩ = false := fun o => (b2.frozen (by have := b1.size; simp at this; simp; omega)).trans ((b1.frozen (by simp)).trans (by simp [go_sem]))
      have hsz : w.heap.size < W2.heap.size := by have := b1.size; have := b2.size; simp at *; omega
      go_wp2_with fail
      refine bodyPost_ret (v := .tuple #[.agg #[.int .i64 0, .int .i64 0], .int .i64 0, .bool false]) (by simp [results, Tryd.results17, go_sem, hc0, hc1]) rfl ⟨by rw [HQ.out.1, HQ.out.2.1, HQ.out.2.2.1, HQ.out.2.2.2], ?_⟩
      repeat (first | exact B2 | refine Below.setCell ?_ (by simp) _)
  | false =>
    have C1 := Lib.hid fun W (hh : Rd W A N c (bv l)) => (I_GetN A N c l i 4 W hh hN).mono fun e w' h' => (⟨by rw [h'.1, h1], h'.2⟩ : e = .returned (.tuple #[.int .i64 (getN l i 4), .int .i64 (getE l i 4), .bool false]) ∧ Below W.heap.size W w')
    have hg : ¬ gaB l i = true := by simp [gaB, h1]
    have HQ := Lib.hid (show gaH l i = 0 ∧ gaP l i = 0 ∧ gaE l i = 0 ∧ gaB l i = false from ⟨by rw [gaH, if_neg hg], by rw [gaP, if_neg hg], by rw [gaE, if_neg hg], by simpa using hg⟩)
    clear hg h1
    · have C2 := Lib.hid fun W (hh : Rd W A N c (bv l)) => I_GetN A N c l (getE l i 4) 2 W hh hN
      go_enter Tryd.func17, Tryd.ntmps17
      go_wp2_with fail
      refine (C1.out _ (h.below B0 (Nat.le_refl _))).mono ?_
      rintro e W1 ⟨rfl, b1⟩
      have B1 := bnext B0 b1
      go_wp2_with fail
      refine (C2.out _ (h.below B1 (Nat.le_refl _))).mono ?_
      rintro e W2 ⟨rfl, b2⟩
      have B2 := bnext B1 b2
      have hc0 : W2.cell? ⟨w.heap.size, 0, none⟩ = some (.int .i64 0) := (b2.cell (by have := b1.size; simp at this; simp; omega)).trans ((b1.cell (by simp)).trans (by simp [go_sem]))
      have hc1 : W2.cell? ⟨w.heap.size, 1, none⟩ = some (.int .i64 0) := (b2.cell (by have := b1.size; simp at this; simp; omega)).trans ((b1.cell (by simp)).trans (by simp [go_sem]))
      have hf : ∀ o, W2.frozen? ⟨w.heap.size, o, none⟩ = false := fun o => (b2.frozen (by have := b1.size; simp at this; simp; omega)).trans ((b1.frozen (by simp)).trans (by simp [go_sem]))
      have hsz : w.heap.size < W2.heap.size := by have := b1.size; have := b2.size; simp at *; omega
      go_wp2_with fail
      refine bodyPost_ret (v := .tuple #[.agg #[.int .i64 0, .int .i64 0], .int .i64 0, .bool false]) (by simp [results, Tryd.results17, go_sem, hc0, hc1]) rfl ⟨by rw [HQ.out.1, HQ.out.2.1, HQ.out.2.2.1, HQ.out.2.2.2], ?_⟩
      repeat (first | exact B2 | refine Below.setCell ?_ (by simp) _)

end Go.Proofs.YtkcmgeoaipjhhaaDoor
