/- Contract of the laws' bent: as many bytes, one of them turned. -/
import Derived.Test.YtbjbncmhnhlkpaaBend
import Derived.Test.YtbjbncmhnhlkpaaLaw
namespace Go.Proofs.Ytbjbncmhnhlkpaa
open Go.ChangeShapes Go.WideShapes Go.ChangeAt Go.RowKit
set_option linter.unusedVariables false

theorem xor_other (y b : UInt8) (hb : b ≠ 0) : y ^^^ b ≠ y := by
  intro h
  have h2 : y ^^^ (y ^^^ b) = y ^^^ y := by rw [h]
  rw [← UInt8.xor_assoc, UInt8.xor_self, UInt8.zero_xor] at h2
  exact hb h2
theorem wrap_b (y : UInt8) (z : Int) (h0 : 0 ≤ z) (h1 : z < 255) : IntKind.i64.wrap (1 + z) = 1 + z ∧ IntKind.u8.wrap (1 + z) = 1 + z ∧ ∃ Z : UInt8, bits .xor .u8 ((y.toNat : Nat) : Int) (1 + z) = ((Z.toNat : Nat) : Int) ∧ Z ≠ y := by
  refine ⟨by rw [IntKind.wrap_i64]; omega, by rw [IntKind.wrap_u8]; omega, _, xor_byte y (1 + z) ⟨by omega, by omega⟩, xor_other _ _ fun e => ?_⟩
  have e2 : (UInt8.ofNat (1 + z).toNat).toNat = 0 := by rw [e]; rfl
  rw [UInt8.toNat_ofNat'] at e2
  omega
theorem set_ne (r : List UInt8) (k : Nat) (h : k < r.length) (Z : UInt8) (hz : Z ≠ r[k]) : r.set k Z ≠ r := by
  intro e
  have h2 : (r.set k Z)[k]'(by rw [List.length_set]; exact h) = Z := List.getElem_set_self _
  have h3 : (r.set k Z)[k]? = r[k]? := by rw [e]
  rw [List.getElem?_eq_getElem (by rw [List.length_set]; exact h), List.getElem?_eq_getElem h, h2] at h3
  injection h3 with h3
  exact hz h3

set_option maxHeartbeats 1000000 in
theorem L_bent (A B : Option Addr) (n c m d : Nat) (l r : List UInt8) (w : World) (h : Rd w A n c (bv l)) (g : Rd w B m d (bv r)) (hn : n ≤ 1048576) (hm : 0 < m) (hm2 : m ≤ 1000) :
    Calls Try.prog 44 #[.slice A n c, .slice B m d] w fun e w' => ∃ (A' : Option Addr) (c' : Nat) (r' : List UInt8), e = .returned (.slice A' m c') ∧ Ow w' 5 A' m c' w.heap.size w'.heap.size (bv r') ∧ Below w.heap.size w w' ∧ r' ≠ r ∧ r'.length = m := by
  have hl : r.length = m := by have := g.len; rwa [bv_len] at this
  have hbd := g.bnd
  have HL := Lib.hid hl
  have HOA := Lib.hid (own_empty w 5)
  have hra := g.alloc (.cells #[] 5)
  have q5 : 0 + m ≤ 70368744177664 := by omega
  have q6 : w.heap.size ≤ (w.alloc (.cells #[] 5)).heap.size := by simp
  have hm' : (0 : Int) < (m : Int) := by omega
  clear hl
  go_enter Try.func44, Try.ntmps44
  go_wp2_with (at_builtin; refine append_bytes _ rfl _ _ rfl w.heap.size _ _ _ [] rfl HOA _ _ _ r rfl hra q5 q6 ?_; intro A1 c1 W1 HO1 hb1)
  have ho1 := HO1.out
  rw [Nat.zero_add, List.nil_append] at ho1
  have B1 := (balloc (Below.refl w.heap.size w) (.cells #[] 5)).trans hb1
  have o1 := Ow.of_own ho1
  have hob := o1.rd.bnd
  have hr := h.below B1 (Nat.le_refl _)
  clear HO1 hb1 hra HOA q5 q6 ho1
  have CA := Lib.hid (fun i hi => L_at A n c l i W1 hr hi hn)
  have CD := Lib.hid (fun i hi => L_at A n c l i W1.drew hr.drew hi hn)
  refine (CA.out 2 (by omega)).mono ?_
  rintro e W ⟨⟨x2, rfl, a20, a21⟩, rfl⟩
  go_wp2_with fail
  refine (CA.out 3 (by omega)).mono ?_
  rintro e W ⟨⟨x3, rfl, a30, a31⟩, rfl⟩
  have hne : (m : Int) ≠ 0 := by omega
  have hk0 := Int.emod_nonneg (x2 * 256 + x3) hne
  have hk1 := Int.emod_lt_of_pos (x2 * 256 + x3) hm'
  obtain ⟨k, hk⟩ : ∃ k : Nat, (x2 * 256 + x3) % (m : Int) = (k : Int) := ⟨((x2 * 256 + x3) % (m : Int)).toNat, by omega⟩
  have hkt : (x2 * 256 + x3).tmod (m : Int) = (k : Int) := by rw [Int.tmod_eq_emod_of_nonneg (by omega)]; exact hk
  rw [hk] at hk0 hk1
  have hkm : k < m := by omega
  have hkr : k < r.length := by have := HL.out; omega
  obtain ⟨ga, rfl⟩ := own_form o1.own hm
  have hcell := (o1.own.cellAt k (by omega)).trans (bv_get hkr)
  have HN := Lib.hid (set_ne r k hkr)
  generalize r[k] = y at *
  have oD := o1.below (bdrew (Below.refl W1.heap.size W1)) (Nat.le_refl _)
  have fc0 : W1.drew.cell? ⟨ga, k, none⟩ = some (.int .u8 ((y.toNat : Nat) : Int)) := hcell
  have ff0 := oD.own.frozenAt k
  have wz := Lib.hid (wrap_b y)
  have hgl := (o1.rng ga rfl).1
  clear hcell
  go_wp2_with fail
  go_region_with (first | (go_at_call 31; refine (CD.out 4 (by omega)).mono ?_; rintro e W ⟨⟨x4, rfl, a40, a41⟩, rfl⟩; have hz0 := Int.emod_nonneg x4 (show (255 : Int) ≠ 0 by omega); have hz1 := Int.emod_lt_of_pos x4 (show (0 : Int) < 255 by omega); have ht := Int.tmod_eq_emod_of_nonneg (b := 255) a40; obtain ⟨w1, w2, Z, w3, w4⟩ := wz.out (x4 % 255) hz0 hz1))
  all_goals
    have HS := oD.own.stored k (.int .u8 ((Z.toNat : Nat) : Int))
    have bS : Below w.heap.size W1.drew (W1.drew.setCell ⟨ga, k, none⟩ (.int .u8 ((Z.toNat : Nat) : Int))) := (Below.refl w.heap.size W1.drew).setCell hgl _
    have oS := HS.1
    rw [bv_set] at oS
    have bF := (bdrew B1).trans bS
    clear HS bS
    go_wp2_with fail
    go_ret
    exact ⟨some ⟨ga, 0, none⟩, c1, r.set k Z, rfl, Ow.of_own oS, bF, HN.out Z w4, by rw [List.length_set]; exact HL.out⟩

end Go.Proofs.Ytbjbncmhnhlkpaa
