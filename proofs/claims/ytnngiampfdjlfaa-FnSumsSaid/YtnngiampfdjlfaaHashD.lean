/- Contracts of l2H, l2Hash, DrawHashAdd, DrawSha (package spec): what the laws want of them: some Hash, some bytes. -/
import Derived.Test.YtnngiampfdjlfaaHashB
import Derived.Test.YtnngiampfdjlfaaDrawH
import Derived.Test.YtnngiampfdjlfaaBend
namespace Go.Proofs.Ytnngiampfdjlfaa
open Go.ChangeShapes Go.WideShapes Go.ChangeAt Go.RowKit
set_option linter.unusedVariables false

theorem Wx.kp {w w' : World} {g k : Nat} {u v x : Value} (h : Wx w g u v x) (hg : Kp k w w') (hne : k ≠ g) : Wx w' g u v x :=
  h.grown hg (fun e => hne (Option.some.inj e)) h.lt

set_option maxHeartbeats 2000000 in
theorem S_L2H (w0 w : World) (g : Nat) (A : Option Addr) (n c : Nat) (l : List UInt8) (d : Dn w0 w g A n c l) :
    Calls Try.prog 60 #[.pointer (some ⟨g, 0, none⟩)] w fun e w' => Drew w0 w g A n c l (fun v _ => ∃ (B : Option Addr) (m q : Nat), v = .slice B m q) e w' := by
  have hg := d.lt
  go_enter Try.func60, Try.ntmps60
  go_wp2_with fail
  refine (S_Start w).mono ?_
  rintro e W1 ⟨B, m, q, rfl, o1, b1⟩
  have hm : m = 8 := by have h := o1.own.1; rw [iv_len] at h; have h2 : startL.length = 8 := rfl; omega
  subst hm
  have hqb := o1.rd.bnd
  obtain ⟨ga, rfl⟩ := own_form o1.own (by omega)
  have hgl := (o1.rng ga rfl).1
  have hgh := (o1.rng ga rfl).2
  have d1 := d.below b1
  have k1 := Kp.of_below (g := g) b1
  have hls : startL.length = 8 := rfl
  generalize startL = sl at *
  have HO1 := Lib.hid o1
  clear o1
  go_wp2_with fail
  go_loopw [4] (fun i wr => ∃ (k : Nat) (r : List Int), i = .int .i64 (k : Int) ∧ k ≤ 8 ∧ r.length = 8 ∧ Hid (wr.ownsRow w.heap.size 3 1 (.slice (some ⟨ga, 0, none⟩) 8 q) 8 (iv r)) ∧ Dn w0 wr g A n c l ∧ Kp g w wr)
    (fun i _ => 8 - (intOf i).toNat)
  case atStart => exact ⟨0, sl, rfl, by omega, hls, HO1.out.own, d1, k1⟩
  case round =>
    obtain ⟨k, r, rfl, hk, hr, HO, dr, kr⟩ := hrel
    by_cases hlt : k < 8
    · have hlt' : (k : Int) < 8 := by omega
      go_wp2_with fail
      refine (S_Below w0 wr g A n c l 16777216 dr).mono ?_
      rintro e W2 ⟨v, rfl, ⟨x, rfl, hx0, hx1, _⟩, d2, k2⟩
      have hx2 := hx1 (by omega)
      have K2 := kr.trans k2
      go_wp2_with fail
      refine (S_Byte w0 W2 g A n c l d2).mono ?_
      rintro e W3 ⟨v, rfl, ⟨y, rfl, hy0, hy1⟩, d3, k3⟩
      have K3 := K2.trans k3
      have o3 := ((Ow.of_own HO.out).kp k2 hg).kp k3 hg
      have hkr : k < r.length := by omega
      have fc := (o3.own.cellAt k (by omega)).trans (iv_get hkr)
      have ff := o3.own.frozenAt k
      have HS := o3.own.stored k (.int .i64 (x * 256 + y))
      have bS : Below w.heap.size W3 (W3.setCell ⟨ga, k, none⟩ (.int .i64 (x * 256 + y))) := (Below.refl w.heap.size W3).setCell (p := (⟨ga, k, none⟩ : Addr)) hgl _
      have dS := d3.belowX bS hg d.bel.size
      have KS := K3.more bS
      have oS := HS.1
      rw [iv_set] at oS
      have hrs : (r.set k (x * 256 + y)).length = 8 := by rw [List.length_set]; exact hr
      have HOS := Lib.hid oS
      generalize r[k] = rk at *
      clear HS oS hx1 HO
      go_wp2_with fail
      go_roundw
      case rel => exact ⟨k + 1, r.set k (x * 256 + y), by go_num, by omega, hrs, HOS, dS, KS⟩
      case measure => simp [intOf]; omega
    · have hlt' : ¬ (k : Int) < 8 := by omega
      go_wp2_with fail
      refine (S_Below w0 wr g A n c l 8 dr).mono ?_
      rintro e W2 ⟨v, rfl, ⟨x, rfl, hx0, hx1, _⟩, d2, k2⟩
      have K2 := kr.trans k2
      have o2 := ((Ow.of_own HO.out).kp k2 hg)
      clear hx1
      by_cases x0 : x = 0
      · subst x0
        go_wp2_with fail
        go_ret
        exact ⟨_, rfl, ⟨_, _, _, rfl⟩, d2, K2⟩
      have e0 : (x == 0) = false := by rw [beq_eq_false_iff_ne]; exact x0
      by_cases x1 : x = 1
      · subst x1
        clear x0
        go_wp2_with fail
        refine (S_Below w0 W2 g A n c l 8 d2).mono ?_
        rintro e W3 ⟨v, rfl, ⟨j, rfl, hj0, hj1, _⟩, d3, k3⟩
        have hj2 := hj1 (by omega)
        obtain ⟨j, rfl⟩ := Int.eq_ofNat_of_zero_le hj0
        have K3 := K2.trans k3
        have o3 := o2.kp k3 hg
        have C := Lib.hid (S_IntL w0 W3 g A n c l [-1, 4294967296] d3 (by decide) (by decide))
        clear hj1
        go_wp2_with fail
        refine C.out.mono ?_
        rintro e W4 ⟨v, rfl, ⟨z, rfl, hz⟩, d4, k4⟩
        have K4 := K3.trans k4
        have o4 := o3.kp k4 hg
        have hjr : j < r.length := by omega
        have fc := (o4.own.cellAt j (by omega)).trans (iv_get hjr)
        have ff := o4.own.frozenAt j
        have bS : Below w.heap.size W4 (W4.setCell ⟨ga, j, none⟩ (.int .i64 z)) := (Below.refl w.heap.size W4).setCell (p := (⟨ga, j, none⟩ : Addr)) hgl _
        have dS := d4.belowX bS hg d.bel.size
        have KS := K4.more bS
        have hj8 : (j : Int) < 8 := by omega
        generalize r[j] = rk at *
        clear hz
        go_wp2_with fail
        go_ret
        exact ⟨_, rfl, ⟨_, _, _, rfl⟩, dS, KS⟩
      · have e1 : (x == 1) = false := by rw [beq_eq_false_iff_ne]; exact x1
        clear x0 x1
        go_wp2_with fail
        go_ret
        exact ⟨_, rfl, ⟨_, _, _, rfl⟩, d2, K2⟩

set_option maxHeartbeats 4000000 in
theorem S_L2Hash (w0 w : World) (g : Nat) (A : Option Addr) (n c : Nat) (l : List UInt8) (d : Dn w0 w g A n c l) :
    Calls Try.prog 42 #[.pointer (some ⟨g, 0, none⟩)] w fun e w' => Drew w0 w g A n c l (fun v _ => ∃ (B : Option Addr) (m q : Nat) (D : Option Addr) (p r : Nat) (k : Int), v = .agg #[.slice B m q, .slice D p r, .int .i64 k]) e w' := by
  have hg := d.lt
  obtain ⟨W0, hW0⟩ : ∃ V, V = w.alloc (.cells #[.slice none 0 0, .slice none 0 0, .int .i64 0] 31) := ⟨_, rfl⟩
  have b0 : Below w.heap.size w W0 := by rw [hW0]; exact balloc (Below.refl _ _) _
  have R0 : Wx W0 w.heap.size (.slice none 0 0) (.slice none 0 0) (.int .i64 0) := by rw [hW0]; exact Wx.new _ _ _ _ _
  have d0 := d.below b0
  have k0 := Kp.of_below (g := g) b0
  have HW := Lib.hid hW0
  have gne : g ≠ w.heap.size := Nat.ne_of_lt hg
  have g0 : g < W0.heap.size := d0.lt
  clear hW0
  have fin : ∀ (W : World) (u v k : Value), Dn w0 W g A n c l → Kp g w W → Dn w0 (((W.setCell ⟨w.heap.size, 0, none⟩ u).setCell ⟨w.heap.size, 1, none⟩ v).setCell ⟨w.heap.size, 2, none⟩ k) g A n c l ∧ Kp g w (((W.setCell ⟨w.heap.size, 0, none⟩ u).setCell ⟨w.heap.size, 1, none⟩ v).setCell ⟨w.heap.size, 2, none⟩ k) := fun W u v k dW kW => by
    have bb : Below w.heap.size W (((W.setCell ⟨w.heap.size, 0, none⟩ u).setCell ⟨w.heap.size, 1, none⟩ v).setCell ⟨w.heap.size, 2, none⟩ k) := (((Below.refl _ _).setCell (p := (⟨w.heap.size, 0, none⟩ : Addr)) (Nat.le_refl _) _).setCell (p := (⟨w.heap.size, 1, none⟩ : Addr)) (Nat.le_refl _) _).setCell (p := (⟨w.heap.size, 2, none⟩ : Addr)) (Nat.le_refl _) _
    exact ⟨dW.belowX bb hg d.bel.size, kW.more bb⟩
  have FIN := Lib.hid fin
  clear fin
  go_enter Try.func42, Try.ntmps42
  go_wp2_with fail
  rw [← HW.out]
  refine (S_HashNew W0).mono ?_
  rintro e W1 ⟨A1, n1, c1, B1, m1, e1, rfl, o1, b1⟩
  have hn1 : n1 ≤ 10 := by have h := o1.ints.rd.len; rw [iv_len] at h; have h2 : startL.length = 8 := rfl; omega
  have hm1 : m1 ≤ 10 := by have h := o1.bytes.rd.len; simp [bv] at h; omega
  have d1 := d0.below b1
  have K1 := k0.trans (Kp.of_below (g := g) b1)
  have R1 := R0.below b1 R0.lt
  have oi := o1.ints
  have ob := o1.bytes
  clear o1
  go_wp2_with fail
  refine (S_Below w0 W1 g A n c l 130 d1).mono ?_
  rintro e W2 ⟨v, rfl, ⟨x, rfl, hx0, hx1, _⟩, d2, k2⟩
  have hx2 := hx1 (by omega)
  have K2 := K1.trans k2
  have R2 := R1.kp k2 gne
  replace oi := oi.kp k2 g0
  replace ob := ob.kp k2 g0
  clear hx1
  go_wp2_with fail
  refine (S_Bytes w0 W2 g A n c l x d2 (by omega)).mono ?_
  rintro e W3 ⟨v, rfl, ⟨Ab, nb, cb, rb, rfl, oy, ly⟩, d3, k3⟩
  have K3 := K2.trans k3
  have R3 := R2.kp k3 gne
  replace oi := oi.kp k3 g0
  replace ob := ob.kp k3 g0
  have hnb : nb ≤ 130 := by have h := oy.rd.len; rw [bv_len] at h; omega
  have C := Lib.hid (S_HashAdd A1 B1 n1 c1 m1 e1 startL [] 0 Ab nb cb rb W3 oi.rd ob.rd oy.rd (by omega) (by omega) (by omega))
  clear oi ob oy ly
  go_wp2_with fail
  refine C.out.mono ?_
  rintro e W4 ⟨A4, n4, c4, B4, m4, e4, rfl, o4, b4⟩
  generalize addN startL [] 0 rb = q at *
  have d4 := d3.below b4
  have K4 := K3.trans (Kp.of_below (g := g) b4)
  have R4 := R3.below b4 R3.lt
  obtain ⟨W5, hW5⟩ : ∃ V, V = W4.alloc (.cells #[.slice A4 n4 c4, .slice B4 m4 e4, .int .i64 q] 31) := ⟨_, rfl⟩
  have b5 : Below W4.heap.size W4 W5 := by rw [hW5]; exact balloc (Below.refl _ _) _
  have X5 : Wx W5 W4.heap.size (.slice A4 n4 c4) (.slice B4 m4 e4) (.int .i64 q) := by rw [hW5]; exact Wx.new _ _ _ _ _
  have d5 := d4.below b5
  have K5 := K4.trans (Kp.of_below (g := g) b5)
  have R5 := R4.below b5 R4.lt
  have HW5 := Lib.hid hW5
  have gx : g ≠ W4.heap.size := Nat.ne_of_lt d4.lt
  have rx : w.heap.size < W4.heap.size := R4.lt
  have xr : W4.heap.size ≠ w.heap.size := Nat.ne_of_gt rx
  have gl4 : g < W4.heap.size := d4.lt
  have l04 := d4.bel.size
  clear hW5 o4 C R0 R1 R2 R3 d0 d1 k2 k3 hn1 hm1
  go_wp2_with fail
  rw [← HW5.out]
  refine (S_Below w0 W5 g A n c l 8 d5).mono ?_
  rintro e W6 ⟨v, rfl, ⟨x, rfl, hy0, hy1, _⟩, d6, k6⟩
  have K6 := K5.trans k6
  have R6 := R5.kp k6 gne
  have X6 := X5.kp k6 gx
  clear hy1 HW5 R4 R5 X5
  by_cases x0 : x = 0
  · subst x0
    go_wp2_with fail
    refine (S_L2H w0 W6 g A n c l d6).mono ?_
    rintro e W7 ⟨v, rfl, ⟨B7, m7, q7, rfl⟩, d7, k7⟩
    have K7 := K6.trans k7
    have R7 := R6.kp k7 gne
    have X7 := X6.kp k7 gx
    have bs : Below W4.heap.size W7 (W7.setCell ⟨W4.heap.size, 0, none⟩ (.slice B7 m7 q7)) := (Below.refl _ _).setCell (p := (⟨W4.heap.size, 0, none⟩ : Addr)) (Nat.le_refl _) _
    have d8 := d7.belowX bs gl4 l04
    have K8 : Kp g w (W7.setCell ⟨W4.heap.size, 0, none⟩ (.slice B7 m7 q7)) := K7.more (bs.mono (Nat.le_of_lt rx))
    obtain ⟨p0, p1, p2, p3, p4, p5⟩ := X7.cells3
    have RR := R7
    have F := FIN.out _ (.slice B7 m7 q7) (.slice B4 m4 e4) (.int .i64 q) d8 K8
    obtain ⟨r0, r1, r2, r3, r4, r5⟩ := RR.cells3
    go_wp2_with fail
    exact bodyPost_ret (v := .agg #[.slice B7 m7 q7, .slice B4 m4 e4, .int .i64 q]) (by simp [results, Try.results42, go_sem, r0, r1, r2]) rfl ⟨_, rfl, ⟨_, _, _, _, _, _, _, rfl⟩, F.1, F.2⟩
  have e0 : (x == 0) = false := by rw [beq_eq_false_iff_ne]; exact x0
  by_cases x1 : x = 1
  · subst x1
    clear x0
    have C := Lib.hid (S_IntL w0 W6 g A n c l [-1, 64, 1048576, 1048577, 1048575] d6 (by decide) (by decide))
    go_wp2_with fail
    refine C.out.mono ?_
    rintro e W7 ⟨v, rfl, ⟨z, rfl, hz⟩, d7, k7⟩
    have K7 := K6.trans k7
    have R7 := R6.kp k7 gne
    have X7 := X6.kp k7 gx
    have bs : Below W4.heap.size W7 (W7.setCell ⟨W4.heap.size, 2, none⟩ (.int .i64 z)) := (Below.refl _ _).setCell (p := (⟨W4.heap.size, 2, none⟩ : Addr)) (Nat.le_refl _) _
    have d8 := d7.belowX bs gl4 l04
    have K8 : Kp g w (W7.setCell ⟨W4.heap.size, 2, none⟩ (.int .i64 z)) := K7.more (bs.mono (Nat.le_of_lt rx))
    obtain ⟨p0, p1, p2, p3, p4, p5⟩ := X7.cells3
    have RR := R7
    clear hz
    have F := FIN.out _ (.slice A4 n4 c4) (.slice B4 m4 e4) (.int .i64 z) d8 K8
    obtain ⟨r0, r1, r2, r3, r4, r5⟩ := RR.cells3
    go_wp2_with fail
    exact bodyPost_ret (v := .agg #[.slice A4 n4 c4, .slice B4 m4 e4, .int .i64 z]) (by simp [results, Try.results42, go_sem, r0, r1, r2]) rfl ⟨_, rfl, ⟨_, _, _, _, _, _, _, rfl⟩, F.1, F.2⟩
  have e1 : (x == 1) = false := by rw [beq_eq_false_iff_ne]; exact x1
  by_cases x2 : x = 2
  · subst x2
    clear x0 x1
    have C := Lib.hid (S_IntL w0 W6 g A n c l [0, 63, 64] d6 (by decide) (by decide))
    go_wp2_with fail
    refine C.out.mono ?_
    rintro e W7 ⟨v, rfl, ⟨z, rfl, hz⟩, d7, k7⟩
    have hz2 : z ≤ 64 := by simp at hz; omega
    have K7 := K6.trans k7
    have R7 := R6.kp k7 gne
    have X7 := X6.kp k7 gx
    clear hz
    go_wp2_with fail
    refine (S_Bytes w0 W7 g A n c l z d7 (by omega)).mono ?_
    rintro e W8 ⟨v, rfl, ⟨D8, p8, r8, rd8, rfl, o8, l8⟩, d8, k8⟩
    have K8 := K7.trans k8
    have R8 := R7.kp k8 gne
    have X8 := X7.kp k8 gx
    have bs : Below W4.heap.size W8 (W8.setCell ⟨W4.heap.size, 1, none⟩ (.slice D8 p8 r8)) := (Below.refl _ _).setCell (p := (⟨W4.heap.size, 1, none⟩ : Addr)) (Nat.le_refl _) _
    obtain ⟨W9, hW9⟩ : ∃ V, V = W8.setCell ⟨W4.heap.size, 1, none⟩ (.slice D8 p8 r8) := ⟨_, rfl⟩
    have d9 := d8.belowX bs gl4 l04
    have K9 : Kp g w (W8.setCell ⟨W4.heap.size, 1, none⟩ (.slice D8 p8 r8)) := K8.more (bs.mono (Nat.le_of_lt rx))
    have X9 := X8.set1 (a := .slice D8 p8 r8)
    have R9 := R8.far (p := (⟨W4.heap.size, 1, none⟩ : Addr)) (a := .slice D8 p8 r8) xr
    obtain ⟨p0, p1, p2, p3, p4, p5⟩ := X8.cells3
    rw [← hW9] at d9 K9 X9 R9
    have HW9 := Lib.hid hW9
    have C2 := Lib.hid (S_IntL w0 W9 g A n c l [0, 63, 64, 1048512, 1048575] d9 (by decide) (by decide))
    rw [show W9.heap.size = W8.heap.size by rw [hW9]; simp] at C2
    clear hW9 bs
    go_wp2_with fail
    rw [← HW9.out]
    refine C2.out.mono ?_
    rintro e WA ⟨v, rfl, ⟨y, rfl, hy⟩, dA, kA⟩
    have KA := K9.trans kA
    have RA := R9.kp kA gne
    have XA := X9.kp kA gx
    have bs : Below W4.heap.size WA (WA.setCell ⟨W4.heap.size, 2, none⟩ (.int .i64 y)) := (Below.refl _ _).setCell (p := (⟨W4.heap.size, 2, none⟩ : Addr)) (Nat.le_refl _) _
    have dB := dA.belowX bs gl4 l04
    have KB : Kp g w (WA.setCell ⟨W4.heap.size, 2, none⟩ (.int .i64 y)) := KA.more (bs.mono (Nat.le_of_lt rx))
    clear p0 p1 p2 p3 p4 p5 hy
    obtain ⟨p0, p1, p2, p3, p4, p5⟩ := XA.cells3
    have RR := RA
    have F := FIN.out _ (.slice A4 n4 c4) (.slice D8 p8 r8) (.int .i64 y) dB KB
    obtain ⟨r0, r1, r2, r3, r4, r5⟩ := RR.cells3
    go_wp2_with fail
    exact bodyPost_ret (v := .agg #[.slice A4 n4 c4, .slice D8 p8 r8, .int .i64 y]) (by simp [results, Try.results42, go_sem, r0, r1, r2]) rfl ⟨_, rfl, ⟨_, _, _, _, _, _, _, rfl⟩, F.1, F.2⟩
  · have e2 : (x == 2) = false := by rw [beq_eq_false_iff_ne]; exact x2
    clear x0 x1 x2
    obtain ⟨p0, p1, p2, p3, p4, p5⟩ := X6.cells3
    have RR := R6
    have F := FIN.out _ (.slice A4 n4 c4) (.slice B4 m4 e4) (.int .i64 q) d6 K6
    obtain ⟨r0, r1, r2, r3, r4, r5⟩ := RR.cells3
    go_wp2_with fail
    exact bodyPost_ret (v := .agg #[.slice A4 n4 c4, .slice B4 m4 e4, .int .i64 q]) (by simp [results, Try.results42, go_sem, r0, r1, r2]) rfl ⟨_, rfl, ⟨_, _, _, _, _, _, _, rfl⟩, F.1, F.2⟩

end Go.Proofs.Ytnngiampfdjlfaa
