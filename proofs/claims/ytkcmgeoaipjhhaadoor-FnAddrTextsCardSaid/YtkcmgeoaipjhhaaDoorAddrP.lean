/- Contracts of l1Str and DrawParseAddr (package spec): a string of at most 1000 bytes. -/
import Derived.Test.YtkcmgeoaipjhhaaDoorAddrD
import Derived.Test.YtkcmgeoaipjhhaaDoorTextS
import Derived.Test.YtkcmgeoaipjhhaaDoorBend
import Derived.Lib.ConvBytes
namespace Go.Proofs.YtkcmgeoaipjhhaaDoor
open Go.ChangeShapes Go.WideShapes Go.ChangeAt Go.RowKit
set_option linter.unusedVariables false

theorem addrT_len2 (a b : Int) : (addrT a b).length ≤ 200 := by
  unfold addrT
  split
  · rename_i h
    have hb := (okAd_iff a b).1 h
    have k := fun u (hu : u ≤ 4294967295) => dgs_len u hu
    have k0 := k (a.toNat / 16777216) (by omega)
    have k1 := k (a.toNat / 65536 % 256) (by omega)
    have k2 := k (a.toNat / 256 % 256) (by omega)
    have k3 := k (a.toNat % 256) (by omega)
    have k4 := k b.toNat (by omega)
    simp only [hostT, List.length_append, List.length_cons]
    omega
  · simp
theorem conv_below2 (w : World) (t : TypeId) (s : ByteArray) : Below w.heap.size w (Lib.bytesWorld w t s) :=
  ⟨rfl, rfl, rfl, by rw [Lib.bytesWorld_size]; omega, fun k hk => Lib.bytesWorld_at_old w t s k hk⟩
/-- What '[]byte(s)' lays. -/
theorem conv_rd2 (w : World) (t : TypeId) (s : ByteArray) (hs : s.size ≤ maxLen) : Rd (Lib.bytesWorld w t s) (some ⟨w.heap.size, 0, none⟩) s.size (grownCap w s.size 0 t) (bv s.data.toList) := by
  refine ⟨by rw [bv_len]; simp, grownCap_ge _ _ _ _, grownCap_le_maxLen w s.size 0 t hs, fun _ => ⟨_, _, rfl, by rw [Lib.bytesWorld_size]; omega, fun j u hu => ?_⟩⟩
  have hj : j < s.data.toList.length := by have := (List.getElem?_eq_some_iff.1 hu).1; rwa [bv_len] at this
  rw [bv_get hj] at hu
  injection hu with hu
  have hj' : j < s.data.size := by simpa using hj
  rw [← hu, Nat.zero_add, Lib.bytesWorld_cell w t s j (by simpa using hj)]
  simp only [List.getD, Array.getElem?_toList, Array.getElem_toList]
  rw [Array.getElem?_eq_getElem hj']
  rfl
/-- A short string. -/
def shortV : Value → Bool
  | .string s => decide (s.size ≤ 100)
  | _ => false
theorem short_of {v : Value} (h : shortV v = true) : ∃ s : ByteArray, v = .string s ∧ s.size ≤ 100 := by
  cases v <;> simp [shortV] at h
  exact ⟨_, rfl, h⟩

/-- l1Str on a list that the caller lays. -/
theorem S_StrL (w0 w : World) (g : Nat) (A : Option Addr) (n c : Nat) (l : List UInt8) (cs : Array Value) (N : Nat) (d : Dn w0 w g A n c l) (hN : cs.size = N) (h0 : 0 < N) (h1 : N ≤ 1000) (hall : cs.toList.all shortV = true) :
    Calls Tryd.prog 37 #[.pointer (some ⟨g, 0, none⟩), .slice (some ⟨w.heap.size, 0, none⟩) N N] (w.alloc (.cells cs 9)) fun e w' => Drew w0 w g A n c l (fun v _ => ∃ s : ByteArray, v = .string s ∧ s.size ≤ 100) e w' := by
  have hB := balloc (Below.refl w.heap.size w) (.cells cs 9)
  have hr : Rd (w.alloc (.cells cs 9)) (some ⟨w.heap.size, 0, none⟩) N N cs.toList := own_rd (World.ownsRow_lit w cs N (Nat.le_refl _) (by unfold maxLen; omega) (by omega))
  have hg := d.lt
  have d1 := d.below hB
  have k1 := Kp.of_below (g := g) hB
  have HL := Lib.hid hN
  have HA := Lib.hid (List.all_eq_true.1 hall)
  have HR := Lib.hid hr
  clear hN hall hr hB
  go_enter Tryd.func37, Tryd.ntmps37
  go_wp2_with fail
  refine (S_Below w0 _ g A n c l N d1).mono ?_
  rintro e W1 ⟨v, rfl, ⟨x, rfl, hx0, hx1, _⟩, d2, k2⟩
  have hx2 := hx1 (by omega)
  obtain ⟨x, rfl⟩ := Int.eq_ofNat_of_zero_le hx0
  have h2 := HR.out.kp k2 (fun b off e => by injection e with e; injection e with e; omega)
  obtain ⟨b, off, hbo, hlb, hcl⟩ := h2.at_ h0
  obtain ⟨rfl, rfl⟩ : w.heap.size = b ∧ 0 = off := by injection hbo with h1; injection h1 with h2 h3; exact ⟨h2, h3⟩
  have hxl : x < cs.toList.length := by rw [Array.length_toList, HL.out]; omega
  have fc := hcl x _ (List.getElem?_eq_getElem hxl)
  obtain ⟨s, hs, hs2⟩ := short_of (HA.out _ (List.getElem_mem hxl))
  rw [hs, Nat.zero_add] at fc
  have hxN : (x : Int) < (N : Int) := by omega
  clear hcl hxl hx1 hs hx2
  go_wp2_with fail
  go_ret
  exact ⟨_, rfl, ⟨_, rfl, hs2⟩, d2, k1.trans k2⟩

set_option maxRecDepth 100000 in
set_option maxHeartbeats 2000000 in
theorem S_DrawParseAddr (A : Option Addr) (n c : Nat) (l : List UInt8) (w : World) (h : Rd w A n c (bv l)) :
    Calls Tryd.prog 18 #[.slice A n c] w fun e w' => (∃ s : ByteArray, e = .returned (.string s) ∧ s.size ≤ 1000) ∧ Below w.heap.size w w' := by
  go_enter Tryd.func18, Tryd.ntmps18
  go_wp2_with fail
  refine (S_New A n c l w h).mono ?_
  rintro e W1 ⟨rfl, d1, b1⟩
  clear b1
  go_wp2_with fail
  refine (S_Below w W1 w.heap.size A n c l 4 d1).mono ?_
  rintro e W2 ⟨v, rfl, ⟨x, rfl, hx0, hx1, _⟩, d2, k2⟩
  clear hx1
  by_cases x0 : x = 0
  · subst x0
    go_wp2_with fail
    refine (S_StrL w W2 w.heap.size A n c l _ 16 d2 rfl (by decide) (by decide) (by kernel_rfl)).mono ?_
    rintro e W3 ⟨v, rfl, ⟨s, rfl, hs⟩, d3, k3⟩
    go_wp2_with fail
    exact bodyPost_ret (v := .string s) (by simp [results, Tryd.results18, go_sem]) rfl ⟨⟨_, rfl, by omega⟩, d3.bel⟩
  have e0 : (x == 0) = false := by rw [beq_eq_false_iff_ne]; exact x0
  by_cases x1 : x = 1
  · subst x1
    clear x0
    go_wp2_with fail
    refine (S_L6Draw w W2 w.heap.size A n c l d2).mono ?_
    rintro e W3 ⟨v, rfl, ⟨a, b, rfl⟩, d3, k3⟩
    go_wp2_with fail
    refine (S_AddrText a b W3).mono ?_
    rintro e W4 ⟨rfl, b4⟩
    have d4 := d3.below b4
    obtain ⟨s, hs⟩ : ∃ s : ByteArray, s = ⟨(addrT a b).toArray⟩ := ⟨_, rfl⟩
    have hsz : s.size ≤ 200 := by rw [hs]; show (addrT a b).toArray.size ≤ 200; rw [List.size_toArray]; exact addrT_len2 a b
    have hcv := fun W => Lib.run_convert_string_bytes (P := Tryd.prog) W 9 28 5 s (u := .string) Tryd.underlying9 Tryd.underlying28 Tryd.underlying5
    rw [← hs]
    have hB := conv_below2 W4 5 s
    have d5 := d4.below hB
    have hg := d4.lt
    have CB := Lib.hid (S_Bend w (Lib.bytesWorld W4 5 s) w.heap.size A n c l (some ⟨W4.heap.size, 0, none⟩) s.size (grownCap W4 s.size 0 5) s.data.toList d5 (conv_rd2 W4 5 s (by unfold maxLen; omega)) (by omega) (fun b off e => by injection e with e; injection e with e; omega))
    clear hs
    go_wp2_with fail
    refine CB.out.mono ?_
    rintro e W5 ⟨v, rfl, ⟨Ab, nb, cb, rb, rfl, ob, lb⟩, d6, k6⟩
    have hcv2 := conv_string (P := Tryd.prog) 28 9 5 Tryd.underlying28 Tryd.underlying5 Tryd.underlying9 Ab nb cb rb W5 ob.rd
    go_wp2_with fail
    exact bodyPost_ret (v := .string ⟨rb.toArray⟩) (by simp [results, Tryd.results18, go_sem]) rfl ⟨⟨_, rfl, by show rb.toArray.size ≤ 1000; rw [List.size_toArray]; simp at lb; omega⟩, d6.bel⟩
  · have e1 : (x == 1) = false := by rw [beq_eq_false_iff_ne]; exact x1
    clear x0 x1
    go_wp2_with fail
    refine (S_L6Draw w W2 w.heap.size A n c l d2).mono ?_
    rintro e W3 ⟨v, rfl, ⟨a, b, rfl⟩, d3, k3⟩
    go_wp2_with fail
    refine (S_AddrText a b W3).mono ?_
    rintro e W4 ⟨rfl, b4⟩
    have hl := addrT_len2 a b
    go_wp2_with fail
    exact bodyPost_ret (v := .string ⟨(addrT a b).toArray⟩) (by simp [results, Tryd.results18, go_sem]) rfl ⟨⟨_, rfl, by show (addrT a b).toArray.size ≤ 1000; rw [List.size_toArray]; omega⟩, (d3.below b4).bel⟩

end Go.Proofs.YtkcmgeoaipjhhaaDoor
