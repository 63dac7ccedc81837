/- Contract of l1Bend (package spec): some bytes, at most one more than it is handed. -/
import Derived.Test.YtkcmgeoaipjhhaaDoorDraws
import Derived.Deep.RegionHeld3
import Derived.Deep.RegionWith
namespace Go.Proofs.YtkcmgeoaipjhhaaDoor
open Go.ChangeShapes Go.WideShapes Go.ChangeAt Go.RowKit
set_option linter.unusedVariables false

theorem own_form {w : World} {t : TypeId} {A : Option Addr} {n c lo : Nat} {xs : List Value} (h : w.ownsRow lo t 1 (.slice A n c) n xs) (hn : 0 < n) : ∃ g, A = some ⟨g, 0, none⟩ := by
  rcases h.2 with ⟨hv, h0⟩ | ⟨g, cap, cur, hv, _⟩
  · omega
  · injection hv with h1 h2 h3; exact ⟨g, h1⟩
theorem Ow.pre {w : World} {t : TypeId} {A : Option Addr} {n c lo hi m : Nat} {xs : List Value} (h : Ow w t A n c lo hi xs) (hm : m ≤ n) : Ow w t A m c lo hi (xs.take m) := by
  have hl := h.own.1
  refine ⟨⟨by rw [List.length_take]; omega, ?_⟩, fun k hk => h.lt k (by cases A <;> exact hk)⟩
  rcases h.own.2 with ⟨hv, h0⟩ | ⟨g, cap, cur, hv, hb, hh, hn, hc, hs, ht⟩
  · injection hv with h1 h2 h3
    exact .inl ⟨by rw [h1, h3, show m = 0 by omega], by omega⟩
  · injection hv with h1 h2 h3
    exact .inr ⟨g, cap, cur, by rw [h1, h3], hb, hh, by omega, hc, hs, by rw [← ht, List.take_take]; congr 1; omega⟩
theorem xor_byte (y : UInt8) (x : Int) (h : 0 ≤ x ∧ x < 256) : bits .xor .u8 ((y.toNat : Nat) : Int) x = (((y ^^^ UInt8.ofNat x.toNat).toNat : Nat) : Int) := by
  have e : x = (((UInt8.ofNat x.toNat).toNat : Nat) : Int) := by rw [UInt8.toNat_ofNat']; omega
  conv => lhs; rw [e]
  rw [xor_u8, UInt8.toNat_xor]
theorem wrap_z (y : UInt8) (z : Int) (h0 : 0 ≤ z) (h1 : z < 255) : IntKind.i64.wrap (1 + z) = 1 + z ∧ IntKind.u8.wrap (1 + z) = 1 + z ∧ ∃ Z : UInt8, bits .xor .u8 ((y.toNat : Nat) : Int) (1 + z) = ((Z.toNat : Nat) : Int) :=
  ⟨by rw [IntKind.wrap_i64]; omega, by rw [IntKind.wrap_u8]; omega, _, xor_byte y (1 + z) ⟨by omega, by omega⟩⟩
theorem bv_set (r : List UInt8) (k : Nat) (z : UInt8) : (bv r).set k (.int .u8 ((z.toNat : Nat) : Int)) = bv (r.set k z) := by simp [bv, List.map_set]
set_option maxHeartbeats 1000000 in
theorem S_Bend (w0 w : World) (g : Nat) (A : Option Addr) (n c : Nat) (l : List UInt8) (B : Option Addr) (m q : Nat) (r : List UInt8) (d : Dn w0 w g A n c l) (h : Rd w B m q (bv r)) (hm : m ≤ 1048576) (hB : ∀ b off, B = some ⟨b, off, none⟩ → b ≠ g) :
    Calls Tryd.prog 38 #[.pointer (some ⟨g, 0, none⟩), .slice B m q] w fun e w' => Drew w0 w g A n c l (fun v w' => Fresh w (fun r' => r'.length ≤ r.length + 1) v w') e w' := by
  have hl : r.length = m := by have := h.len; rwa [bv_len] at this
  have hbd := h.bnd
  have hg := d.lt
  have HL := Lib.hid hl
  have HOA := Lib.hid (own_empty w 5)
  have hra := h.alloc (.cells #[] 5)
  have q5 : 0 + m ≤ 70368744177664 := by omega
  have q6 : w.heap.size ≤ (w.alloc (.cells #[] 5)).heap.size := by simp
  clear hl
  go_enter Tryd.func38, Tryd.ntmps38
  go_wp2_with (at_builtin; refine append_bytes _ rfl _ _ rfl w.heap.size _ _ _ [] rfl HOA _ _ _ r rfl hra q5 q6 ?_; intro A1 c1 W1 HO1 hb1)
  have ho1 := HO1.out
  rw [Nat.zero_add, List.nil_append] at ho1
  have B1 := (balloc (Below.refl w.heap.size w) (.cells #[] 5)).trans hb1
  have d1 := d.below B1
  have o1 := Ow.of_own ho1
  clear HO1 hb1 hra HOA q5 q6 ho1
  refine (S_Below w0 W1 g A n c l 8 d1).mono ?_
  rintro e W2 ⟨v, rfl, ⟨x, rfl, hx0, hx1, _⟩, d2, k2⟩
  have hx2 := hx1 (by omega)
  have o2 := (o1.kp k2 hg)
  have K2 : Kp g w W2 := (Kp.of_below B1).trans k2
  have hob := o2.rd.bnd
  have s1 := B1.size
  have s2 := k2.size
  clear o1 hx1
  by_cases x0 : x = 0
  · subst x0
    by_cases hm0 : m = 0
    · subst hm0
      go_wp2_with fail
      go_ret
      exact ⟨_, rfl, ⟨A1, 0, c1, r, rfl, o2.more s2, by omega⟩, d2, K2⟩
    · have hmp : (0 : Int) < (m : Int) := by omega
      go_wp2_with fail
      refine (S_Below w0 W2 g A n c l m d2).mono ?_
      rintro e W3 ⟨v, rfl, ⟨k, rfl, hk0, hk1, _⟩, d3, k3⟩
      have hk2 := hk1 (by omega)
      obtain ⟨k, rfl⟩ := Int.eq_ofNat_of_zero_le hk0
      have hkm : k < m := by omega
      have o3 := o2.kp k3 hg
      have K3 := K2.trans k3
      obtain ⟨ga, rfl⟩ := own_form o3.own (by omega)
      have hgl := (o3.rng ga rfl).1
      have hkr : k < r.length := by have := HL.out; omega
      have hcell := (o3.own.cellAt k (by omega)).trans (bv_get hkr)
      generalize r[k] = y at *
      have oD := o3.below (bdrew (Below.refl W3.heap.size W3)) (by have := k3.size; omega)
      have dD := d3.below (bdrew (Below.refl W3.heap.size W3))
      have fc0 : W3.drew.cell? ⟨ga, k, none⟩ = some (.int .u8 ((y.toNat : Nat) : Int)) := hcell
      have hne : ga ≠ g := by omega
      have t0 : (0 : Int) ≤ (k : Int) := by omega
      have t1 : (k : Int) < (m : Int) := by omega
      clear hcell
      have wz := Lib.hid (wrap_z y)
      go_wp2_with fail
      go_region_with (first | (go_at_call 30; refine (S_Below w0 W3.drew g A n c l 255 dD).mono ?_; rintro e W4 ⟨v, rfl, ⟨z, rfl, hz0, hz1, _⟩, d4, k4⟩; have fc4 := k4.cell fc0 (fun e' => hne (by injection e')); have o4 := oD.kp k4 hg; have ff4 := o4.own.frozenAt k; have hz2 := hz1 (by omega); obtain ⟨w1, w2, Z, w3⟩ := wz.out z hz0 hz2))
      all_goals
        have HS := o4.own.stored k (.int .u8 ((Z.toNat : Nat) : Int))
        have bS : Below w.heap.size W4 (W4.setCell ⟨ga, k, none⟩ (.int .u8 ((Z.toNat : Nat) : Int))) := (Below.refl w.heap.size W4).setCell hgl _
        have dS := d4.belowX bS hg d.bel.size
        have KS := ((K3.trans (Kp.of_below (bdrew (Below.refl W3.heap.size W3)))).trans k4).more bS
        have oS := HS.1
        rw [bv_set] at oS
        clear HS
        go_wp2_with fail
        go_ret
        exact ⟨_, rfl, ⟨some ⟨ga, 0, none⟩, m, c1, r.set k Z, rfl, Ow.of_own oS, by show (r.set k Z).length ≤ _; rw [List.length_set]; omega⟩, dS, KS⟩
  by_cases x1 : x = 1
  · subst x1
    by_cases hm0 : m = 0
    · subst hm0
      go_wp2_with fail
      go_ret
      exact ⟨_, rfl, ⟨A1, 0, c1, r, rfl, o2.more s2, by omega⟩, d2, K2⟩
    · have hmp : (0 : Int) < (m : Int) := by omega
      go_wp2_with fail
      refine (S_Below w0 W2 g A n c l m d2).mono ?_
      rintro e W3 ⟨v, rfl, ⟨k, rfl, hk0, hk1, _⟩, d3, k3⟩
      have hk2 := hk1 (by omega)
      obtain ⟨k, rfl⟩ := Int.eq_ofNat_of_zero_le hk0
      have o3 := o2.kp k3 hg
      have K3 := K2.trans k3
      have hkc : (k : Int) ≤ (c1 : Int) := by omega
      have o4 := o3.pre (m := k) (by omega)
      rw [show (bv r).take k = bv (r.take k) by simp [bv]] at o4
      have s3 := k3.size
      obtain ⟨ga, rfl⟩ := own_form o3.own (by omega)
      go_wp2_with fail
      go_ret
      exact ⟨_, rfl, ⟨some ⟨ga, 0, none⟩, k, c1, r.take k, rfl, o4.more (by omega), by show (r.take k).length ≤ _; rw [List.length_take]; omega⟩, d3, K3⟩
  by_cases x2 : x = 2
  · subst x2
    go_wp2_with fail
    refine (S_Byte w0 W2 g A n c l d2).mono ?_
    rintro e W3 ⟨v, rfl, ⟨z, rfl, hz0, hz1⟩, d3, k3⟩
    obtain ⟨z, rfl⟩ := Int.eq_ofNat_of_zero_le hz0
    have hz : (UInt8.ofNat z).toNat = z := by simp; omega
    have o3 := o2.kp k3 hg
    have K3 := K2.trans k3
    have s3 := k3.size
    have HI := Lib.hid (o3.own.alloc (.cells #[.int .u8 (z : Int)] 5))
    have hr1 : Rd (W3.alloc (.cells #[.int .u8 (z : Int)] 5)) (some ⟨W3.heap.size, 0, none⟩) 1 1 (bv [UInt8.ofNat z]) := by
      have h := rd_one W3 5 (.int .u8 (z : Int))
      simpa [bv, hz] using h
    have z8 : IntKind.u8.wrap (z : Int) = z := by rw [IntKind.wrap_u8]; omega
    have q5 : m + 1 ≤ 70368744177664 := by omega
    have q6 : ∀ o, w.heap.size ≤ (W3.alloc o).heap.size := fun o => by simp; omega
    go_wp2_with (at_builtin; refine append_bytes _ rfl _ _ rfl w.heap.size _ _ _ _ rfl HI _ _ _ [UInt8.ofNat z] rfl hr1 q5 (q6 _) ?_; intro A4 c4 W4 HO4 hb4)
    have b4 := (Below.alloc (Below.refl w.heap.size W3) (by omega) (.cells #[.int .u8 (z : Int)] 5)).trans hb4
    go_ret
    exact ⟨_, rfl, ⟨A4, m + 1, c4, _, rfl, Ow.of_own HO4.out, by show (r ++ _).length ≤ _; rw [List.length_append]; exact Nat.le_refl _⟩, d3.belowX b4 hg d.bel.size, K3.more b4⟩
  · have g0 : ¬ x = 0 := x0
    have e0 : (x == 0) = false := by rw [beq_eq_false_iff_ne]; exact x0
    have e1 : (x == 1) = false := by rw [beq_eq_false_iff_ne]; exact x1
    have e2 : (x == 2) = false := by rw [beq_eq_false_iff_ne]; exact x2
    go_wp2_with fail
    go_ret
    exact ⟨_, rfl, ⟨A1, m, c1, r, rfl, o2.more s2, by omega⟩, d2, K2⟩

end Go.Proofs.YtkcmgeoaipjhhaaDoor
