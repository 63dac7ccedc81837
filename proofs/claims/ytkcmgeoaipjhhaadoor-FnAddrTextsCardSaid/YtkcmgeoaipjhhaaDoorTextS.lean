/- Contract of the reference's AddrText: for all integers. -/
import Derived.Test.YtkcmgeoaipjhhaaDoorNumS
import Derived.Deep.RegionHeld3
namespace Go.Proofs.YtkcmgeoaipjhhaaDoor
open Go.ChangeShapes Go.WideShapes Go.ChangeAt Go.RowKit
set_option linter.unusedVariables false

theorem num_at (n : Nat) (z : Int) (W : World) (hz : (n : Int) = z) (hn : n ≤ 4294967295) :
    Calls Tryd.prog 40 #[.int .i64 z] W fun e w' => e = .returned (.string ⟨(dgs n).toArray⟩) ∧ Below W.heap.size W w' := by
  subst hz
  exact S_Num n W hn
theorem text_app (x0 x1 x2 x3 x4 : List UInt8) : (⟨x0.toArray⟩ : ByteArray) ++ ⟨#[46]⟩ ++ ⟨x1.toArray⟩ ++ ⟨#[46]⟩ ++ ⟨x2.toArray⟩ ++ ⟨#[46]⟩ ++ ⟨x3.toArray⟩ ++ ⟨#[58]⟩ ++ ⟨x4.toArray⟩ =
    ⟨(x0 ++ 46 :: (x1 ++ 46 :: (x2 ++ 46 :: x3)) ++ 58 :: x4).toArray⟩ := by
  have e1 : (⟨#[46]⟩ : ByteArray) = ⟨([46] : List UInt8).toArray⟩ := rfl
  have e2 : (⟨#[58]⟩ : ByteArray) = ⟨([58] : List UInt8).toArray⟩ := rfl
  rw [e1, e2, bapp, bapp, bapp, bapp, bapp, bapp, bapp, bapp]
  congr 2
  simp
theorem dgs_len (k : Nat) (h : k ≤ 4294967295) : (dgs k).length ≤ 20 := by
  rw [Lib.decDigits_length]; exact Lib.nDigits_le20 k (by omega)

set_option maxRecDepth 100000 in
set_option maxHeartbeats 2000000 in
theorem S_AddrText (a b : Int) (w : World) :
    Calls Tryd.prog 21 #[.agg #[.int .i64 a, .int .i64 b]] w fun e w' => e = .returned (.string ⟨(addrT a b).toArray⟩) ∧ Below w.heap.size w w' := by
  have B0 := balloc (Below.refl _ w) (.cells #[.int .i64 a, .int .i64 b] 23)
  have C := Lib.hid (fun W => S_AddrOk a b W)
  cases hok : okAd a b with
  | false =>
    have HE := Lib.hid (show addrT a b = [] by rw [addrT, if_neg (by simp [hok])])
    have C1 := Lib.hid fun W => (C.out W).mono fun e w' h => (⟨by rw [h.1, hok], h.2⟩ : e = .returned (.bool false) ∧ Below W.heap.size W w')
    clear hok C
    go_enter Tryd.func21, Tryd.ntmps21
    go_wp2_with fail
    refine (C1.out _).mono ?_
    rintro e W1 ⟨rfl, b1⟩
    have B1 := bnext B0 b1
    go_wp2_with fail
    go_ret
    exact ⟨by rw [HE.out]; rfl, B1⟩
  | true =>
    have hb := (okAd_iff a b).1 hok
    obtain ⟨A, rfl⟩ := Int.eq_ofNat_of_zero_le hb.1.1
    obtain ⟨B, rfl⟩ := Int.eq_ofNat_of_zero_le hb.2.1
    have hA : A ≤ 4294967295 := by omega
    have hB : B ≤ 65535 := by omega
    have HE := Lib.hid (show addrT (A : Int) (B : Int) = hostT A ++ 58 :: dgs B by rw [addrT, if_pos hok]; simp)
    have C1 := Lib.hid fun W => (C.out W).mono fun e w' h => (⟨by rw [h.1, hok], h.2⟩ : e = .returned (.bool true) ∧ Below W.heap.size W w')
    clear hok C hb
    have D0 := Lib.hid fun W => num_at (A / 16777216) ((A : Int) / 16777216) W (by omega) (by omega)
    have D1 := Lib.hid fun W => num_at (A / 65536 % 256) ((A : Int) / 65536 % 256) W (by omega) (by omega)
    have D2 := Lib.hid fun W => num_at (A / 256 % 256) ((A : Int) / 256 % 256) W (by omega) (by omega)
    have D3 := Lib.hid fun W => num_at (A % 256) ((A : Int) % 256) W (by omega) (by omega)
    have D4 := Lib.hid fun W => num_at B (B : Int) W (by omega) (by omega)
    rw [hostT] at HE
    have L0 := dgs_len (A / 16777216) (by omega)
    have L1 := dgs_len (A / 65536 % 256) (by omega)
    have L2 := dgs_len (A / 256 % 256) (by omega)
    have L3 := dgs_len (A % 256) (by omega)
    have L4 := dgs_len B (by omega)
    generalize dgs (A / 16777216) = x0 at *
    generalize dgs (A / 65536 % 256) = x1 at *
    generalize dgs (A / 256 % 256) = x2 at *
    generalize dgs (A % 256) = x3 at *
    generalize dgs B = x4 at *
    have t0 : ¬ 9223372036854775807 < x0.length + 1 := by omega
    have t1 : ¬ 9223372036854775807 < x0.length + 1 + x1.length := by omega
    have t2 : ¬ 9223372036854775807 < x0.length + 1 + x1.length + 1 := by omega
    have t3 : ¬ 9223372036854775807 < x0.length + 1 + x1.length + 1 + x2.length := by omega
    have t4 : ¬ 9223372036854775807 < x0.length + 1 + x1.length + 1 + x2.length + 1 := by omega
    have t5 : ¬ 9223372036854775807 < x0.length + 1 + x1.length + 1 + x2.length + 1 + x3.length := by omega
    have t6 : ¬ 9223372036854775807 < x0.length + 1 + x1.length + 1 + x2.length + 1 + x3.length + 1 := by omega
    have t7 : ¬ 9223372036854775807 < x0.length + 1 + x1.length + 1 + x2.length + 1 + x3.length + 1 + x4.length := by omega
    clear L0 L1 L2 L3 L4 hA hB
    go_enter Tryd.func21, Tryd.ntmps21
    go_wp2_with fail
    refine (C1.out _).mono ?_
    rintro e W1 ⟨rfl, b1⟩
    have B1 := bnext B0 b1
    have s1 : w.heap.size < W1.heap.size := by have := b1.size; simp at this; omega
    have c0 : W1.cell? ⟨w.heap.size, 0, none⟩ = some (.int .i64 (A : Int)) := (b1.cell (by simp)).trans (by simp [go_sem])
    have c1 : W1.cell? ⟨w.heap.size, 1, none⟩ = some (.int .i64 (B : Int)) := (b1.cell (by simp)).trans (by simp [go_sem])
    go_wp2_with fail
    go_region_held3 (fun w' => w'.cell? ⟨w.heap.size, 0, none⟩ = some (.int .i64 (A : Int)) ∧ w'.cell? ⟨w.heap.size, 1, none⟩ = some (.int .i64 (B : Int)))
      (first | exact ⟨c0, c1⟩ | exact ⟨f60, f61⟩ | exact ⟨f50, f51⟩ | exact ⟨f40, f41⟩ | exact ⟨f30, f31⟩ | exact ⟨f20, f21⟩)
      (first
        | (go_at_call 40; (with_reducible refine (D0.out _).mono ?_); rintro e W2 ⟨rfl, b2⟩; have f20 := (b2.cell (p := ⟨w.heap.size, 0, none⟩) s1).trans c0; have f21 := (b2.cell (p := ⟨w.heap.size, 1, none⟩) s1).trans c1; have s2 := Nat.lt_of_lt_of_le s1 b2.size)
        | (go_at_call 40; (with_reducible refine (D1.out _).mono ?_); rintro e W3 ⟨rfl, b3⟩; have f30 := (b3.cell (p := ⟨w.heap.size, 0, none⟩) s2).trans f20; have f31 := (b3.cell (p := ⟨w.heap.size, 1, none⟩) s2).trans f21; have s3 := Nat.lt_of_lt_of_le s2 b3.size)
        | (go_at_call 40; (with_reducible refine (D2.out _).mono ?_); rintro e W4 ⟨rfl, b4⟩; have f40 := (b4.cell (p := ⟨w.heap.size, 0, none⟩) s3).trans f30; have f41 := (b4.cell (p := ⟨w.heap.size, 1, none⟩) s3).trans f31; have s4 := Nat.lt_of_lt_of_le s3 b4.size)
        | (go_at_call 40; (with_reducible refine (D3.out _).mono ?_); rintro e W5 ⟨rfl, b5⟩; have f50 := (b5.cell (p := ⟨w.heap.size, 0, none⟩) s4).trans f40; have f51 := (b5.cell (p := ⟨w.heap.size, 1, none⟩) s4).trans f41; have s5 := Nat.lt_of_lt_of_le s4 b5.size)
        | (go_at_call 40; (with_reducible refine (D4.out _).mono ?_); rintro e W6 ⟨rfl, b6⟩; have f60 := (b6.cell (p := ⟨w.heap.size, 0, none⟩) s5).trans f50; have f61 := (b6.cell (p := ⟨w.heap.size, 1, none⟩) s5).trans f51))
    go_wp2_with fail
    go_ret
    refine ⟨?_, bnext (bnext (bnext (bnext (bnext (bdrew B1) b2) b3) b4) b5) b6⟩
    rw [HE.out]
    exact congrArg (fun s => Ending.returned (.string s)) (text_app x0 x1 x2 x3 x4)

end Go.Proofs.YtkcmgeoaipjhhaaDoor
