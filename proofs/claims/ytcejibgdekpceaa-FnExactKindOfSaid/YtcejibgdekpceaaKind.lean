/- Contracts of KindName and KindOf (reference and program): the name of a kind, and the kind with a name; for all integers and strings. -/
import Derived.Test.YtcejibgdekpceaaWord
namespace Go.Proofs.Ytcejibgdekpceaa
open Go.ChangeShapes Go.WideShapes Go.ChangeAt Go.RowKit
set_option linter.unusedVariables false

/-- The names of the kinds 1 to 8. -/
def kName (i : Int) : ByteArray :=
  if i = 1 then ⟨#[105, 110, 105, 116]⟩ else if i = 2 then ⟨#[99, 111, 111, 107, 105, 101]⟩ else if i = 3 then ⟨#[102, 105, 110, 105, 115, 104]⟩ else if i = 4 then ⟨#[100, 97, 116, 97]⟩
  else if i = 5 then ⟨#[99, 104, 97, 108, 108, 101, 110, 103, 101]⟩ else if i = 6 then ⟨#[114, 101, 115, 112, 111, 110, 115, 101]⟩ else if i = 7 then ⟨#[114, 101, 107, 101, 121]⟩ else if i = 8 then ⟨#[114, 101, 107, 101, 121, 97, 99, 107]⟩ else ⟨#[]⟩

theorem kName_out {i : Int} (h : ¬ (1 ≤ i ∧ i ≤ 8)) : kName i = ⟨#[]⟩ := by
  unfold kName
  rw [if_neg (by omega), if_neg (by omega), if_neg (by omega), if_neg (by omega), if_neg (by omega), if_neg (by omega), if_neg (by omega), if_neg (by omega)]
theorem S_KindName_1 (w : World) : Calls Try.prog 24 #[.int .i64 1] w fun e w' => e = .returned (.string (kName 1)) ∧ Below w.heap.size w w' := by
  go_enter Try.func24, Try.ntmps24
  go_wp2_with fail
  refine (S_in_yes _ _ _ _ (by decide)).mono ?_
  rintro e w' ⟨rfl, rfl⟩
  go_wp2_with fail
  go_ret
  exact ⟨rfl, balloc (Below.refl _ _) _⟩
theorem S_KindName_2 (w : World) : Calls Try.prog 24 #[.int .i64 2] w fun e w' => e = .returned (.string (kName 2)) ∧ Below w.heap.size w w' := by
  go_enter Try.func24, Try.ntmps24
  go_wp2_with fail
  refine (S_in_yes _ _ _ _ (by decide)).mono ?_
  rintro e w' ⟨rfl, rfl⟩
  go_wp2_with fail
  go_ret
  exact ⟨rfl, balloc (Below.refl _ _) _⟩
theorem S_KindName_3 (w : World) : Calls Try.prog 24 #[.int .i64 3] w fun e w' => e = .returned (.string (kName 3)) ∧ Below w.heap.size w w' := by
  go_enter Try.func24, Try.ntmps24
  go_wp2_with fail
  refine (S_in_yes _ _ _ _ (by decide)).mono ?_
  rintro e w' ⟨rfl, rfl⟩
  go_wp2_with fail
  go_ret
  exact ⟨rfl, balloc (Below.refl _ _) _⟩
theorem S_KindName_4 (w : World) : Calls Try.prog 24 #[.int .i64 4] w fun e w' => e = .returned (.string (kName 4)) ∧ Below w.heap.size w w' := by
  go_enter Try.func24, Try.ntmps24
  go_wp2_with fail
  refine (S_in_yes _ _ _ _ (by decide)).mono ?_
  rintro e w' ⟨rfl, rfl⟩
  go_wp2_with fail
  go_ret
  exact ⟨rfl, balloc (Below.refl _ _) _⟩
theorem S_KindName_5 (w : World) : Calls Try.prog 24 #[.int .i64 5] w fun e w' => e = .returned (.string (kName 5)) ∧ Below w.heap.size w w' := by
  go_enter Try.func24, Try.ntmps24
  go_wp2_with fail
  refine (S_in_yes _ _ _ _ (by decide)).mono ?_
  rintro e w' ⟨rfl, rfl⟩
  go_wp2_with fail
  go_ret
  exact ⟨rfl, balloc (Below.refl _ _) _⟩
theorem S_KindName_6 (w : World) : Calls Try.prog 24 #[.int .i64 6] w fun e w' => e = .returned (.string (kName 6)) ∧ Below w.heap.size w w' := by
  go_enter Try.func24, Try.ntmps24
  go_wp2_with fail
  refine (S_in_yes _ _ _ _ (by decide)).mono ?_
  rintro e w' ⟨rfl, rfl⟩
  go_wp2_with fail
  go_ret
  exact ⟨rfl, balloc (Below.refl _ _) _⟩
theorem S_KindName_7 (w : World) : Calls Try.prog 24 #[.int .i64 7] w fun e w' => e = .returned (.string (kName 7)) ∧ Below w.heap.size w w' := by
  go_enter Try.func24, Try.ntmps24
  go_wp2_with fail
  refine (S_in_yes _ _ _ _ (by decide)).mono ?_
  rintro e w' ⟨rfl, rfl⟩
  go_wp2_with fail
  go_ret
  exact ⟨rfl, balloc (Below.refl _ _) _⟩
theorem S_KindName_8 (w : World) : Calls Try.prog 24 #[.int .i64 8] w fun e w' => e = .returned (.string (kName 8)) ∧ Below w.heap.size w w' := by
  go_enter Try.func24, Try.ntmps24
  go_wp2_with fail
  refine (S_in_yes _ _ _ _ (by decide)).mono ?_
  rintro e w' ⟨rfl, rfl⟩
  go_wp2_with fail
  go_ret
  exact ⟨rfl, balloc (Below.refl _ _) _⟩
theorem S_KindName (i : Int) (w : World) : Calls Try.prog 24 #[.int .i64 i] w fun e w' => e = .returned (.string (kName i)) ∧ Below w.heap.size w w' := by
  by_cases h : 1 ≤ i ∧ i ≤ 8
  · have hc : i = 1 ∨ i = 2 ∨ i = 3 ∨ i = 4 ∨ i = 5 ∨ i = 6 ∨ i = 7 ∨ i = 8 := by omega
    rcases hc with rfl | rfl | rfl | rfl | rfl | rfl | rfl | rfl
    · exact S_KindName_1 w
    · exact S_KindName_2 w
    · exact S_KindName_3 w
    · exact S_KindName_4 w
    · exact S_KindName_5 w
    · exact S_KindName_6 w
    · exact S_KindName_7 w
    · exact S_KindName_8 w
  · rw [kName_out h]
    have HN := Lib.hid h
    clear h
    go_enter Try.func24, Try.ntmps24
    go_wp2_with fail
    refine (S_in_no _ _ _ _ HN.out).mono ?_
    rintro e w' ⟨rfl, rfl⟩
    go_wp2_with fail
    go_ret
    exact ⟨rfl, balloc (Below.refl _ _) _⟩

theorem I_KindName_1 (w : World) : Calls Try.prog 25 #[.int .i64 1] w fun e w' => e = .returned (.string (kName 1)) ∧ Below w.heap.size w w' := by
  go_enter Try.func25, Try.ntmps25
  go_wp2_with fail
  refine (I_in_yes _ _ _ _ (by decide)).mono ?_
  rintro e w' ⟨rfl, rfl⟩
  go_wp2_with fail
  go_ret
  exact ⟨rfl, balloc (Below.refl _ _) _⟩
theorem I_KindName_2 (w : World) : Calls Try.prog 25 #[.int .i64 2] w fun e w' => e = .returned (.string (kName 2)) ∧ Below w.heap.size w w' := by
  go_enter Try.func25, Try.ntmps25
  go_wp2_with fail
  refine (I_in_yes _ _ _ _ (by decide)).mono ?_
  rintro e w' ⟨rfl, rfl⟩
  go_wp2_with fail
  go_ret
  exact ⟨rfl, balloc (Below.refl _ _) _⟩
theorem I_KindName_3 (w : World) : Calls Try.prog 25 #[.int .i64 3] w fun e w' => e = .returned (.string (kName 3)) ∧ Below w.heap.size w w' := by
  go_enter Try.func25, Try.ntmps25
  go_wp2_with fail
  refine (I_in_yes _ _ _ _ (by decide)).mono ?_
  rintro e w' ⟨rfl, rfl⟩
  go_wp2_with fail
  go_ret
  exact ⟨rfl, balloc (Below.refl _ _) _⟩
theorem I_KindName_4 (w : World) : Calls Try.prog 25 #[.int .i64 4] w fun e w' => e = .returned (.string (kName 4)) ∧ Below w.heap.size w w' := by
  go_enter Try.func25, Try.ntmps25
  go_wp2_with fail
  refine (I_in_yes _ _ _ _ (by decide)).mono ?_
  rintro e w' ⟨rfl, rfl⟩
  go_wp2_with fail
  go_ret
  exact ⟨rfl, balloc (Below.refl _ _) _⟩
theorem I_KindName_5 (w : World) : Calls Try.prog 25 #[.int .i64 5] w fun e w' => e = .returned (.string (kName 5)) ∧ Below w.heap.size w w' := by
  go_enter Try.func25, Try.ntmps25
  go_wp2_with fail
  refine (I_in_yes _ _ _ _ (by decide)).mono ?_
  rintro e w' ⟨rfl, rfl⟩
  go_wp2_with fail
  go_ret
  exact ⟨rfl, balloc (Below.refl _ _) _⟩
theorem I_KindName_6 (w : World) : Calls Try.prog 25 #[.int .i64 6] w fun e w' => e = .returned (.string (kName 6)) ∧ Below w.heap.size w w' := by
  go_enter Try.func25, Try.ntmps25
  go_wp2_with fail
  refine (I_in_yes _ _ _ _ (by decide)).mono ?_
  rintro e w' ⟨rfl, rfl⟩
  go_wp2_with fail
  go_ret
  exact ⟨rfl, balloc (Below.refl _ _) _⟩
theorem I_KindName_7 (w : World) : Calls Try.prog 25 #[.int .i64 7] w fun e w' => e = .returned (.string (kName 7)) ∧ Below w.heap.size w w' := by
  go_enter Try.func25, Try.ntmps25
  go_wp2_with fail
  refine (I_in_yes _ _ _ _ (by decide)).mono ?_
  rintro e w' ⟨rfl, rfl⟩
  go_wp2_with fail
  go_ret
  exact ⟨rfl, balloc (Below.refl _ _) _⟩
theorem I_KindName_8 (w : World) : Calls Try.prog 25 #[.int .i64 8] w fun e w' => e = .returned (.string (kName 8)) ∧ Below w.heap.size w w' := by
  go_enter Try.func25, Try.ntmps25
  go_wp2_with fail
  refine (I_in_yes _ _ _ _ (by decide)).mono ?_
  rintro e w' ⟨rfl, rfl⟩
  go_wp2_with fail
  go_ret
  exact ⟨rfl, balloc (Below.refl _ _) _⟩
theorem I_KindName (i : Int) (w : World) : Calls Try.prog 25 #[.int .i64 i] w fun e w' => e = .returned (.string (kName i)) ∧ Below w.heap.size w w' := by
  by_cases h : 1 ≤ i ∧ i ≤ 8
  · have hc : i = 1 ∨ i = 2 ∨ i = 3 ∨ i = 4 ∨ i = 5 ∨ i = 6 ∨ i = 7 ∨ i = 8 := by omega
    rcases hc with rfl | rfl | rfl | rfl | rfl | rfl | rfl | rfl
    · exact I_KindName_1 w
    · exact I_KindName_2 w
    · exact I_KindName_3 w
    · exact I_KindName_4 w
    · exact I_KindName_5 w
    · exact I_KindName_6 w
    · exact I_KindName_7 w
    · exact I_KindName_8 w
  · rw [kName_out h]
    have HN := Lib.hid h
    clear h
    go_enter Try.func25, Try.ntmps25
    go_wp2_with fail
    refine (I_in_no _ _ _ _ HN.out).mono ?_
    rintro e w' ⟨rfl, rfl⟩
    go_wp2_with fail
    go_ret
    exact ⟨rfl, balloc (Below.refl _ _) _⟩

/-- The first kind from i on, n at most, whose name is s; 0 if there is none. -/
def kofFrom (s : ByteArray) : Nat → Nat → Int
  | 0, _ => 0
  | n + 1, i => if kName i = s then i else kofFrom s n (i + 1)
/-- KindOf of the program. -/
def kindOf (s : ByteArray) : Int := kofFrom s 8 1
theorem bytes_ext {a b : ByteArray} (h : a.toList = b.toList) : a = b := by
  rw [ByteArray.toList_eq, ByteArray.toList_eq] at h
  exact ByteArray.ext (Array.toList_inj.1 h)

theorem S_KindOf (s : ByteArray) (w : World) : Calls Try.prog 33 #[.string s] w fun e w' => e = .returned (.int .i64 (kindOf s)) ∧ Below w.heap.size w w' := by
  go_enter Try.func33, Try.ntmps33
  go_wp2_with fail
  go_loopw [3] (fun i wr => ∃ k : Nat, 1 ≤ k ∧ k ≤ 9 ∧ i = .int .i64 k ∧ Hid (kofFrom s (9 - k) k = kindOf s) ∧ Below w.heap.size w wr)
    (fun i _ => (9 - intOf i).toNat)
  case atStart => exact ⟨1, by omega, by omega, rfl, (rfl : _ = _), Below.refl _ _⟩
  case round =>
    obtain ⟨k, hk1, hk, rfl, HK, hb⟩ := hrel
    by_cases hlt : k ≤ 8
    · have hlt' : (k : Int) ≤ 8 := by omega
      by_cases hs : kName k = s
      · have HR := Lib.hid (show kindOf s = k by
          rw [← HK.out, show 9 - k = (8 - k) + 1 by omega, kofFrom, if_pos hs])
        clear HK
        subst hs
        go_wp2_with fail
        refine (S_KindName k _).mono ?_
        rintro e w' ⟨rfl, hb1⟩
        go_wp2_with fail
        go_ret
        exact ⟨by rw [HR.out]; rfl, bnext hb hb1⟩
      · have HR := Lib.hid (show kofFrom s (9 - (k + 1)) (k + 1) = kindOf s by
          rw [← HK.out, show 9 - k = (9 - (k + 1)) + 1 by omega, kofFrom, if_neg hs])
        clear HK
        have hnl : ((kName k).toList == s.toList) = false := by rw [beq_eq_false_iff_ne]; exact fun e => hs (bytes_ext e)
        clear hs
        go_wp2_with fail
        refine (S_KindName k _).mono ?_
        rintro e w' ⟨rfl, hb1⟩
        go_wp2_with fail
        go_roundw
        case rel => exact ⟨k + 1, by omega, by omega, by go_num, HR, bnext hb hb1⟩
        case measure => simp [intOf]; omega
    · have hlt' : ¬ (k : Int) ≤ 8 := by omega
      have HR := Lib.hid (show kindOf s = 0 by
        rw [← HK.out, show 9 - k = 0 by omega, kofFrom])
      go_wp2_with fail
      go_ret
      exact ⟨by rw [HR.out]; rfl, hb⟩

theorem I_KindOf (s : ByteArray) (w : World) : Calls Try.prog 34 #[.string s] w fun e w' => e = .returned (.int .i64 (kindOf s)) ∧ Below w.heap.size w w' := by
  go_enter Try.func34, Try.ntmps34
  go_wp2_with fail
  go_loopw [3] (fun i wr => ∃ k : Nat, 1 ≤ k ∧ k ≤ 9 ∧ i = .int .i64 k ∧ Hid (kofFrom s (9 - k) k = kindOf s) ∧ Below w.heap.size w wr)
    (fun i _ => (9 - intOf i).toNat)
  case atStart => exact ⟨1, by omega, by omega, rfl, (rfl : _ = _), Below.refl _ _⟩
  case round =>
    obtain ⟨k, hk1, hk, rfl, HK, hb⟩ := hrel
    by_cases hlt : k ≤ 8
    · have hlt' : (k : Int) ≤ 8 := by omega
      by_cases hs : kName k = s
      · have HR := Lib.hid (show kindOf s = k by
          rw [← HK.out, show 9 - k = (8 - k) + 1 by omega, kofFrom, if_pos hs])
        clear HK
        subst hs
        go_wp2_with fail
        refine (I_KindName k _).mono ?_
        rintro e w' ⟨rfl, hb1⟩
        go_wp2_with fail
        go_ret
        exact ⟨by rw [HR.out]; rfl, bnext hb hb1⟩
      · have HR := Lib.hid (show kofFrom s (9 - (k + 1)) (k + 1) = kindOf s by
          rw [← HK.out, show 9 - k = (9 - (k + 1)) + 1 by omega, kofFrom, if_neg hs])
        clear HK
        have hnl : ((kName k).toList == s.toList) = false := by rw [beq_eq_false_iff_ne]; exact fun e => hs (bytes_ext e)
        clear hs
        go_wp2_with fail
        refine (I_KindName k _).mono ?_
        rintro e w' ⟨rfl, hb1⟩
        go_wp2_with fail
        go_roundw
        case rel => exact ⟨k + 1, by omega, by omega, by go_num, HR, bnext hb hb1⟩
        case measure => simp [intOf]; omega
    · have hlt' : ¬ (k : Int) ≤ 8 := by omega
      have HR := Lib.hid (show kindOf s = 0 by
        rw [← HK.out, show 9 - k = 0 by omega, kofFrom])
      go_wp2_with fail
      go_ret
      exact ⟨by rw [HR.out]; rfl, hb⟩

end Go.Proofs.Ytcejibgdekpceaa
