/- Contracts of l1Size, DrawHexText, DrawParseHex (package spec). -/
import Derived.Test.YtfhpigfoeejhlaaHexT
import Derived.Test.YtfhpigfoeejhlaaBend
import Derived.Lib.ConvBytes
namespace Go.Proofs.Ytfhpigfoeejhlaa
open Go.ChangeShapes Go.WideShapes Go.ChangeAt Go.RowKit
set_option linter.unusedVariables false

theorem S_Size (A : Option Addr) (n c : Nat) (w : World) (hb : n ≤ c ∧ c ≤ 9223372036854775807) (hn : n ≤ 1048576) :
    Calls Try.prog 72 #[.slice A n c, .int .i64 12] w fun e w' => (∃ z : Int, e = .returned (.int .i64 z) ∧ 0 ≤ z ∧ z ≤ 12) ∧ w = w' := by
  have hq : ((n : Int)).tdiv 12 = (n : Int) / 12 := by rw [Int.tdiv_eq_ediv_of_nonneg (by omega)]
  by_cases h : (12 : Int) < 3 + (n : Int) / 12
  · go_enter Try.func72, Try.ntmps72
    go_wp2_with fail
    go_ret
    exact ⟨⟨_, rfl, by omega, by omega⟩, rfl⟩
  · have h2 : 0 ≤ 3 + (n : Int) / 12 ∧ 3 + (n : Int) / 12 ≤ 12 := by omega
    go_enter Try.func72, Try.ntmps72
    go_wp2_with fail
    go_ret
    exact ⟨⟨_, rfl, h2.1, h2.2⟩, rfl⟩

theorem S_DrawHexText (A : Option Addr) (n c : Nat) (l : List UInt8) (w : World) (h : Rd w A n c (bv l)) (hn : n ≤ 1048576) :
    Calls Try.prog 29 #[.slice A n c] w fun e w' => ∃ (Aa : Option Addr) (na ca : Nat) (ra : List UInt8), e = .returned (.slice Aa na ca) ∧ (Ow w' 5 Aa na ca w.heap.size w'.heap.size (bv ra) ∧ ra.length ≤ 12) ∧ Below w.heap.size w w' := by
  have hb := h.bnd
  go_enter Try.func29, Try.ntmps29
  go_wp2_with fail
  refine (S_New A n c l w h).mono ?_
  rintro e W1 ⟨rfl, d1, b1⟩
  clear b1
  go_wp2_with fail
  refine (S_Size A n c W1 hb hn).mono ?_
  rintro e W ⟨⟨z, rfl, hz0, hz1⟩, rfl⟩
  go_wp2_with fail
  refine (S_Below w W1 w.heap.size A n c l z d1).mono ?_
  rintro e W2 ⟨v, rfl, ⟨x, rfl, hx0, hx1, hx2⟩, d2, k2⟩
  have hx3 : x ≤ 12 := by
    by_cases hz : 0 < z
    · have := hx1 hz; omega
    · have := hx2 (by omega); omega
  go_wp2_with fail
  refine (S_Bytes w W2 w.heap.size A n c l x d2 (by omega)).mono ?_
  rintro e W3 ⟨v, rfl, ⟨Aa, na, ca, ra, rfl, oa, la⟩, d3, k3⟩
  go_wp2_with fail
  exact bodyPost_ret (v := .slice Aa na ca) (by simp [results, Try.results29, go_sem]) rfl ⟨Aa, na, ca, ra, rfl, ⟨oa.less d2.bel.size, by omega⟩, d3.bel⟩

theorem conv_below (w : World) (t : TypeId) (s : ByteArray) : Below w.heap.size w (Lib.bytesWorld w t s) :=
  ⟨rfl, rfl, rfl, by rw [Lib.bytesWorld_size]; omega, fun k hk => Lib.bytesWorld_at_old w t s k hk⟩
/-- What '[]byte(s)' lays. -/
theorem conv_rd (w : World) (t : TypeId) (s : ByteArray) (hs : s.size ≤ maxLen) : Rd (Lib.bytesWorld w t s) (some ⟨w.heap.size, 0, none⟩) s.size (grownCap w s.size 0 t) (bv s.data.toList) := by
  refine ⟨by rw [bv_len]; simp, grownCap_ge _ _ _ _, grownCap_le_maxLen w s.size 0 t hs, fun _ => ⟨_, _, rfl, by rw [Lib.bytesWorld_size]; omega, fun j u hu => ?_⟩⟩
  have hj : j < s.data.toList.length := by have := (List.getElem?_eq_some_iff.1 hu).1; rwa [bv_len] at this
  rw [bv_get hj] at hu
  injection hu with hu
  have hj' : j < s.data.size := by simpa using hj
  rw [← hu, Nat.zero_add, Lib.bytesWorld_cell w t s j (by simpa using hj)]
  simp only [List.getD, Array.getElem?_toList, Array.getElem_toList]
  rw [Array.getElem?_eq_getElem hj']
  rfl

set_option maxHeartbeats 1000000 in
theorem S_DrawParseHex (A : Option Addr) (n c : Nat) (l : List UInt8) (w : World) (h : Rd w A n c (bv l)) :
    Calls Try.prog 32 #[.slice A n c] w fun e w' => (∃ s : ByteArray, e = .returned (.string s) ∧ s.size ≤ 1000) ∧ Below w.heap.size w w' := by
  go_enter Try.func32, Try.ntmps32
  go_wp2_with fail
  refine (S_New A n c l w h).mono ?_
  rintro e W1 ⟨rfl, d1, b1⟩
  clear b1
  go_wp2_with fail
  refine (S_IntL w W1 w.heap.size A n c l [0, 1, 2, 6, 200, 201] d1 (by decide) (by decide)).mono ?_
  rintro e W2 ⟨v, rfl, ⟨x, rfl, hx⟩, d2, k2⟩
  have gx : x ≤ 201 := by simp at hx; omega
  go_wp2_with fail
  refine (S_Bytes w W2 w.heap.size A n c l x d2 (by omega)).mono ?_
  rintro e W3 ⟨v, rfl, ⟨Aa, na, ca, ra, rfl, oa, la⟩, d3, k3⟩
  have hna : na ≤ 201 := by have := oa.rd.len; rw [bv_len] at this; omega
  go_wp2_with fail
  refine (S_HexText Aa na ca ra W3 oa.rd (by omega)).mono ?_
  rintro e W4 ⟨rfl, b4⟩
  have d4 := d3.below b4
  obtain ⟨s, hs⟩ : ∃ s : ByteArray, s = ⟨(hexT ra).toArray⟩ := ⟨_, rfl⟩
  have hsz : s.size ≤ 402 := by rw [hs]; show (hexT ra).toArray.size ≤ 402; rw [List.size_toArray, hexT_len]; have := oa.rd.len; rw [bv_len] at this; omega
  have hcv := fun W => Lib.run_convert_string_bytes (P := Try.prog) W 9 23 5 s (u := .string) Try.underlying9 Try.underlying23 Try.underlying5
  rw [← hs]
  have hB := conv_below W4 5 s
  have d5 := d4.below hB
  have hg := d4.lt
  have CB := Lib.hid (S_Bend w (Lib.bytesWorld W4 5 s) w.heap.size A n c l (some ⟨W4.heap.size, 0, none⟩) s.size (grownCap W4 s.size 0 5) s.data.toList d5 (conv_rd W4 5 s (by unfold maxLen; omega)) (by omega) (fun b off e => by injection e with e; injection e with e; omega))
  clear hs
  go_wp2_with fail
  refine CB.out.mono ?_
  rintro e W5 ⟨v, rfl, ⟨Ab, nb, cb, rb, rfl, ob, lb⟩, d6, k6⟩
  have hcv2 := conv_string (P := Try.prog) 23 9 5 Try.underlying23 Try.underlying5 Try.underlying9 Ab nb cb rb W5 ob.rd
  go_wp2_with fail
  exact bodyPost_ret (v := .string ⟨rb.toArray⟩) (by simp [results, Try.results32, go_sem]) rfl ⟨⟨_, rfl, by show rb.toArray.size ≤ 1000; rw [List.size_toArray]; simp at lb; omega⟩, d6.bel⟩

end Go.Proofs.Ytfhpigfoeejhlaa
