/- Contracts of l2Words and areWords: whether a list is 8 words of 32 bits. -/
import Derived.Test.YtnngiampfdjlfaaWord
import Derived.Test.YtnngiampfdjlfaaShaM
namespace Go.Proofs.Ytnngiampfdjlfaa
open Go.ChangeShapes Go.WideShapes Go.ChangeAt Go.RowKit
set_option linter.unusedVariables false

/-- Whether l is 8 words. -/
def wordsB (l : List Int) : Bool := l.all (fun z => decide (0 ≤ z ∧ z < 4294967296)) && decide (l.length = 8)
theorem wordsB_iff (l : List Int) : wordsB l = true ↔ (∀ z ∈ l, Wd z) ∧ l.length = 8 := by
  simp [wordsB, Wd]
theorem wordsB_bad (l : List Int) (k : Nat) (x : Int) (h : l[k]? = some x) (hx : ¬ (0 ≤ x ∧ x ≤ 4294967295)) : wordsB l = false := by
  rw [Bool.eq_false_iff]
  intro hw
  obtain ⟨h1, h2⟩ := (wordsB_iff l).1 hw
  have := h1 x (List.mem_of_getElem? h)
  exact hx ⟨this.1, by have := this.2; omega⟩
theorem wordsB_end (l : List Int) (h : ∀ z ∈ l.take l.length, Wd z) : wordsB l = decide (l.length = 8) := by
  rw [List.take_length] at h
  rw [Bool.eq_iff_iff, wordsB_iff, decide_eq_true_iff]
  exact ⟨fun k => k.2, fun k => ⟨h, k⟩⟩
theorem take_wd (l : List Int) (k : Nat) (x : Int) (h : l[k]? = some x) (hx : 0 ≤ x ∧ x ≤ 4294967295) (ht : ∀ z ∈ l.take k, Wd z) : ∀ z ∈ l.take (k + 1), Wd z := by
  intro z hz
  rw [List.take_add_one, h, List.mem_append] at hz
  rcases hz with hz | hz
  · exact ht z hz
  · simp at hz
    subst hz
    exact ⟨hx.1, by omega⟩

theorem S_Words (A : Option Addr) (N c : Nat) (l : List Int) (w : World) (h : Rd w A N c (iv l)) :
    Calls Try.prog 51 #[.slice A N c] w fun e w' => e = .returned (.bool (wordsB l)) ∧ w = w' := by
  have hl : l.length = N := by have := h.len; rwa [iv_len] at this
  have HL := Lib.hid hl
  have hbd := h.bnd
  clear hl
  go_enter Try.func51, Try.ntmps51
  go_wp2_with fail
  go_loopw [3] (fun i wr => ∃ (k : Nat), i = .int .i64 k ∧ k ≤ N ∧ Hid (∀ z ∈ l.take k, Wd z) ∧ w = wr) (fun i _ => N - (intOf i).toNat)
  case atStart => exact ⟨0, rfl, by omega, by intro z hz; simp at hz, rfl⟩
  case round =>
    obtain ⟨k, rfl, hk, HT, rfl⟩ := hrel
    by_cases hlt : k < N
    · have hlt' : (k : Int) < (N : Int) := by omega
      obtain ⟨b, off, rfl, hlb, hcl⟩ := h.at_ (by omega)
      have hx : l[k]? = some (l.getD k 0) := by
        have hl := HL.out
        simp [List.getD, show k < l.length by omega]
      have HX := Lib.hid hx
      have f := hcl k _ (by rw [iv, List.getElem?_map, hx]; rfl)
      clear hcl hx
      generalize l.getD k 0 = x at *
      by_cases hin : 0 ≤ x ∧ x ≤ 4294967295
      · have C := S_in_yes x 0 4294967295 w hin
        go_wp2_with fail
        refine C.mono ?_
        rintro e W1 ⟨rfl, rfl⟩
        go_wp2_with fail
        go_roundw
        case rel => exact ⟨k + 1, by go_num, by omega, take_wd l k x HX.out hin HT.out, by trivial⟩
        case measure => simp [intOf]; omega
      · have C := S_in_no x 0 4294967295 w hin
        have HB := Lib.hid (wordsB_bad l k x HX.out hin)
        clear hin
        go_wp2_with fail
        refine C.mono ?_
        rintro e W1 ⟨rfl, rfl⟩
        go_wp2_with fail
        go_ret
        exact ⟨by rw [HB.out]; rfl, rfl⟩
    · have hlt' : ¬ (k : Int) < (N : Int) := by omega
      obtain rfl : k = N := by omega
      have HE := Lib.hid (wordsB_end l (by rw [HL.out]; exact HT.out))
      by_cases h8 : k = 8
      · have h8' : (k : Int) = 8 := by omega
        have HR : Hid (wordsB l = true) := by show _ = _; rw [HE.out, HL.out, decide_eq_true h8]
        subst h8
        go_wp2_with fail
        exact bodyPost_ret (v := .bool true) (by simp [results, Try.results51, go_sem]) rfl ⟨by rw [HR.out], rfl⟩
      · have h8' : ¬ (k : Int) = 8 := by omega
        have HR : Hid (wordsB l = false) := by show _ = _; rw [HE.out, HL.out, decide_eq_false h8]
        go_wp2_with fail
        exact bodyPost_ret (v := .bool false) (by simp [results, Try.results51, go_sem, h8']) rfl ⟨by rw [HR.out], rfl⟩

theorem I_Words (A : Option Addr) (N c : Nat) (l : List Int) (w : World) (h : Rd w A N c (iv l)) :
    Calls Try.prog 47 #[.slice A N c, .int .i64 8] w fun e w' => e = .returned (.bool (wordsB l)) ∧ w = w' := by
  have hl : l.length = N := by have := h.len; rwa [iv_len] at this
  have HL := Lib.hid hl
  have hbd := h.bnd
  clear hl
  go_enter Try.func47, Try.ntmps47
  go_wp2_with fail
  go_loopw [9] (fun i wr => ∃ (k : Nat), i = .int .i64 k ∧ k ≤ N ∧ Hid (∀ z ∈ l.take k, Wd z) ∧ w = wr) (fun i _ => N - (intOf i).toNat)
  case atStart => exact ⟨0, rfl, by omega, by intro z hz; simp at hz, rfl⟩
  case round =>
    obtain ⟨k, rfl, hk, HT, rfl⟩ := hrel
    by_cases hlt : k < N
    · have hlt' : (k : Int) < (N : Int) := by omega
      obtain ⟨b, off, rfl, hlb, hcl⟩ := h.at_ (by omega)
      have hx : l[k]? = some (l.getD k 0) := by
        have hl := HL.out
        simp [List.getD, show k < l.length by omega]
      have HX := Lib.hid hx
      have f := hcl k _ (by rw [iv, List.getElem?_map, hx]; rfl)
      clear hcl hx
      generalize l.getD k 0 = x at *
      by_cases hin : 0 ≤ x ∧ x ≤ 4294967295
      · have C := I_in_yes x 0 4294967295 w hin
        go_wp2_with fail
        refine C.mono ?_
        rintro e W1 ⟨rfl, rfl⟩
        go_wp2_with fail
        go_roundw
        case rel => exact ⟨k + 1, by go_num, by omega, take_wd l k x HX.out hin HT.out, by trivial⟩
        case measure => simp [intOf]; omega
      · have C := I_in_no x 0 4294967295 w hin
        have HB := Lib.hid (wordsB_bad l k x HX.out hin)
        clear hin
        go_wp2_with fail
        refine C.mono ?_
        rintro e W1 ⟨rfl, rfl⟩
        go_wp2_with fail
        go_ret
        exact ⟨by rw [HB.out]; rfl, rfl⟩
    · have hlt' : ¬ (k : Int) < (N : Int) := by omega
      obtain rfl : k = N := by omega
      have HE := Lib.hid (wordsB_end l (by rw [HL.out]; exact HT.out))
      by_cases h8 : k = 8
      · have h8' : (k : Int) = 8 := by omega
        have HR : Hid (wordsB l = true) := by show _ = _; rw [HE.out, HL.out, decide_eq_true h8]
        subst h8
        go_wp2_with fail
        exact bodyPost_ret (v := .bool true) (by simp [results, Try.results47, go_sem]) rfl ⟨by rw [HR.out], rfl⟩
      · have h8' : ¬ (k : Int) = 8 := by omega
        have HR : Hid (wordsB l = false) := by show _ = _; rw [HE.out, HL.out, decide_eq_false h8]
        go_wp2_with fail
        exact bodyPost_ret (v := .bool false) (by simp [results, Try.results47, go_sem, h8']) rfl ⟨by rw [HR.out], rfl⟩

end Go.Proofs.Ytnngiampfdjlfaa
