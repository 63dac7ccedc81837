/- Contracts of Mix, of the reference and of the program. -/
import Derived.Test.YtbjbncmhnhlkpaaKdf3
import Derived.Test.YtbjbncmhnhlkpaaStepX
namespace Go.Proofs.Ytbjbncmhnhlkpaa
open Go.ChangeShapes Go.WideShapes Go.ChangeAt Go.RowKit
set_option linter.unusedVariables false

theorem xorL_take (b s : List UInt8) (j : Nat) (h1 : j < b.length) (h2 : j < s.length) : xorL (b.take (j + 1)) s = xorL (b.take j) s ++ [b[j] ^^^ s[j]] := by
  unfold xorL
  rw [List.take_add_one, List.getElem?_eq_getElem h1]
  have e : s = s.take j ++ s[j] :: s.drop (j + 1) := by rw [List.getElem_cons_drop, List.take_append_drop]
  have l1 : (b.take j).length = (s.take j).length := by rw [List.length_take, List.length_take]; omega
  have hz : List.zipWith (fun x y => x ^^^ y) (b.take j) s = List.zipWith (fun x y => x ^^^ y) (b.take j) (s.take j) := by
    conv => lhs; rw [e]
    rw [← List.append_nil (b.take j), List.zipWith_append l1]
    simp
  rw [hz]
  conv => lhs; rw [e]
  rw [List.zipWith_append l1]
  rfl

set_option maxHeartbeats 1000000 in
theorem S_Mix_no (A B D : Option Addr) (n c m d p r : Nat) (k hd b : List UInt8) (w : World) (h : Rd w A n c (bv k)) (g : Rd w B m d (bv hd)) (t : Rd w D p r (bv b)) (hok : ¬ strOk k hd b.length) :
    Calls Try.prog 27 #[.slice A n c, .slice B m d, .slice D p r] w fun e w' => Out 5 w (bv []) e w' := by
  have hkl : k.length = n := by have := h.len; rwa [bv_len] at this
  have hml : hd.length = m := by have := g.len; rwa [bv_len] at this
  have hpl : b.length = p := by have := t.len; rwa [bv_len] at this
  have hbd := h.bnd
  have hbd2 := g.bnd
  have hbd3 := t.bnd
  by_cases hp : p ≤ 200
  rotate_left
  · have hp' : (200 : Int) < (p : Int) := by omega
    clear hkl hml hpl hok
    go_enter Try.func27, Try.ntmps27
    go_wp2_with fail
    exact bodyPost_ret (v := .slice (some ⟨w.heap.size, 0, none⟩) 0 0) (by simp [results, Try.results27, go_sem]) rfl ⟨_, _, _, rfl, Ow.of_own (own_empty w _), balloc (Below.refl _ _) _⟩
  have hp' : ¬ (200 : Int) < (p : Int) := by omega
  by_cases hm : m ≤ 100
  rotate_left
  · have hm' : (100 : Int) < (m : Int) := by omega
    clear hkl hml hpl hok
    go_enter Try.func27, Try.ntmps27
    go_wp2_with fail
    exact bodyPost_ret (v := .slice (some ⟨w.heap.size, 0, none⟩) 0 0) (by simp [results, Try.results27, go_sem]) rfl ⟨_, _, _, rfl, Ow.of_own (own_empty w _), balloc (Below.refl _ _) _⟩
  have hm' : ¬ (100 : Int) < (m : Int) := by omega
  have hn' : (1048576 : Int) < (n : Int) := by
    refine Int.not_le.1 fun hn => hok ⟨by omega, by omega, by omega⟩
  clear hkl hml hpl hok
  go_enter Try.func27, Try.ntmps27
  go_wp2_with fail
  exact bodyPost_ret (v := .slice (some ⟨w.heap.size, 0, none⟩) 0 0) (by simp [results, Try.results27, go_sem]) rfl ⟨_, _, _, rfl, Ow.of_own (own_empty w _), balloc (Below.refl _ _) _⟩

set_option maxHeartbeats 1000000 in
theorem S_Mix (A B D : Option Addr) (n c m d p r : Nat) (k hd b : List UInt8) (w : World) (h : Rd w A n c (bv k)) (g : Rd w B m d (bv hd)) (t : Rd w D p r (bv b)) :
    Calls Try.prog 27 #[.slice A n c, .slice B m d, .slice D p r] w fun e w' => Out 5 w (bv (mixL k hd b)) e w' := by
  by_cases hok : strOk k hd b.length
  rotate_left
  · rw [show mixL k hd b = [] by rw [mixL, if_neg hok]]
    exact S_Mix_no A B D n c m d p r k hd b w h g t hok
  have hkl : k.length = n := by have := h.len; rwa [bv_len] at this
  have hml : hd.length = m := by have := g.len; rwa [bv_len] at this
  have hpl : b.length = p := by have := t.len; rwa [bv_len] at this
  have hbd := h.bnd
  have hbd2 := g.bnd
  have hbd3 := t.bnd
  have HS := Lib.hid (show mixL k hd b = xorL b (streamL k hd b.length) by rw [mixL, if_pos hok])
  have HSL := Lib.hid (streamL_len k hd b.length hok)
  obtain ⟨⟨hq0, hq1⟩, hm, hn⟩ := hok
  have hp' : ¬ (200 : Int) < (p : Int) := by omega
  have hm' : ¬ (100 : Int) < (m : Int) := by omega
  have hn' : ¬ (1048576 : Int) < (n : Int) := by omega
  have HPL := Lib.hid hpl
  clear hkl hml hq0 hpl
  have B0 : Below w.heap.size w (w.alloc (.cells #[] 5)) := balloc (Below.refl _ _) _
  have e0 := own_empty w 5
  have C := Lib.hid (S_Stream A B n c m d k hd p (w.alloc (.cells #[] 5)) (h.alloc _) (g.alloc _))
  rw [← HPL.out] at C
  rw [HPL.out] at C
  go_enter Try.func27, Try.ntmps27
  go_wp2_with fail
  refine C.out.mono ?_
  rintro e W1 ⟨A6, n6, c6, rfl, o6, b6⟩
  have hst : (streamL k hd p).length = p := by have h1 := HSL.out; rw [HPL.out] at h1; omega
  have hn6 : p = n6 := by have h1 := o6.rd.len; rw [bv_len, hst] at h1; exact h1
  subst hn6
  have B1 := bnext B0 b6
  have r6 := o6.rd
  have s1 := B1.size
  have o0 := ((Ow.of_own e0).below b6 (Nat.le_refl _)).more b6.size
  rw [show (p : Int) = ((b.length : Nat) : Int) by have := HPL.out; omega] at o6 hst
  have HST := Lib.hid hst
  have o6' := o6
  clear hst C o6 r6
  have r6 := o6'.rd
  have hbd6 := r6.bnd
  clear r6
  go_wp2_with fail
  go_loopw [7, 9] (fun v i wr => ∃ (j c1 : Nat) (A1 : Option Addr), v = .slice A1 j c1 ∧ i = .int .i64 j ∧ j ≤ p ∧
      Hid (Ow wr 5 A1 j c1 w.heap.size wr.heap.size (bv (xorL (b.take j) (streamL k hd b.length)))) ∧ Hid (Ow wr 5 A6 p c6 w.heap.size wr.heap.size (bv (streamL k hd b.length))) ∧ Hid (Apart A1 A6 j c1 p c6) ∧ Below w.heap.size w wr)
    (fun _ i _ => p - (intOf i).toNat)
  case atStart => exact ⟨0, 0, _, rfl, rfl, by omega, o0, o6'.less B0.size, fun x h1 h2 => by have h3 := (o6'.rng x h2).1; simp [Value.ownBlock] at h1; simp at h3; omega, B1⟩
  case round =>
    obtain ⟨j, c1, A1, rfl, rfl, hj, HO, HS6, HAP, hb⟩ := hrel
    have r6 := HS6.out.rd
    have rb := t.below hb (Nat.le_refl _)
    by_cases hlt : j < p
    · have hlt' : (j : Int) < (p : Int) := by omega
      obtain ⟨gb, ob, rfl, hgb, hcb⟩ := rb.at_ (by omega)
      obtain ⟨gs, os, rfl, hgs, hcs⟩ := r6.at_ (by omega)
      have hjb : j < b.length := by have := HPL.out; omega
      have hjs : j < (streamL k hd b.length).length := by have := HST.out; have := HPL.out; omega
      have fb := hcb j _ (bv_get hjb)
      have fs := hcs j _ (bv_get hjs)
      have HF := Lib.hid (xorL_take b (streamL k hd b.length) j hjb hjs)
      generalize b[j] = y at *
      generalize (streamL k hd b.length)[j] = x at *
      clear hcb hcs hjb hjs
      have HOV : Hid (∀ o, Hid ((wr.drew.alloc o).ownsRow w.heap.size 5 1 (.slice A1 j c1) j (bv (xorL (b.take j) (streamL k hd b.length))))) := fun o => (HO.out.below (bdrew (Below.refl wr.heap.size wr)) (Nat.le_refl _)).own.alloc o
      have HBV : Hid (∀ o, w.heap.size ≤ (wr.drew.alloc o).heap.size ∧ Below w.heap.size w (wr.drew.alloc o)) := fun o => ⟨(balloc (bdrew hb) o).size, balloc (bdrew hb) o⟩
      have hr1 := rd_xor wr.drew 5 y x
      have q5 : j + 1 ≤ 70368744177664 := by omega
      go_wp2_with fail
      go_region_law (refine step_append_bytes_x _ rfl _ _ rfl w.heap.size _ _ _ _ (by simp [Act.eval]) (HOV.out _) _ _ _ [y ^^^ x] (by simp [Act.eval]) hr1 q5 (HBV.out _).1 ?_; intro A3 c3 W3 HO3 g3 nx3)
      all_goals (
        have ho3 := HO3.out
        rw [← HF.out] at ho3
        have T3 := two_step HO.out HS6.out HAP.out hb.size (balloc (bdrew (Below.refl wr.heap.size wr)) _) g3
        have b4 := hb.trans T3.2
        have ap3 := nx3.apart HAP.out HS6.out (Below.size (balloc (bdrew (Below.refl wr.heap.size wr)) _))
        clear HO3 HOV HBV g3 nx3
        go_wp2_with fail
        go_roundw)
      all_goals first
        | exact ⟨j + 1, c3, A3, rfl, by go_num, by omega, Ow.of_own ho3, T3.1, ap3, b4⟩
        | (simp [intOf]; omega)
    · have hlt' : ¬ (j : Int) < (p : Int) := by omega
      have ho := HO.out
      rw [show b.take j = b from List.take_of_length_le (by have := HPL.out; omega)] at ho
      have HO8 := Lib.hid ho
      clear ho
      go_wp2_with fail
      exact bodyPost_ret (v := .slice A1 j c1) (by simp [results, Try.results27, go_sem]) rfl (by rw [HS.out]; exact ⟨_, _, _, rfl, HO8.out, hb⟩)

set_option maxHeartbeats 1000000 in
theorem I_Mix_no (A B D : Option Addr) (n c m d p r : Nat) (k hd b : List UInt8) (w : World) (h : Rd w A n c (bv k)) (g : Rd w B m d (bv hd)) (t : Rd w D p r (bv b)) (hok : ¬ strOk k hd b.length) :
    Calls Try.prog 28 #[.slice A n c, .slice B m d, .slice D p r] w fun e w' => Out 5 w (bv []) e w' := by
  have hkl : k.length = n := by have := h.len; rwa [bv_len] at this
  have hml : hd.length = m := by have := g.len; rwa [bv_len] at this
  have hpl : b.length = p := by have := t.len; rwa [bv_len] at this
  have hbd := h.bnd
  have hbd2 := g.bnd
  have hbd3 := t.bnd
  by_cases hp : p ≤ 200
  rotate_left
  · have hp' : (200 : Int) < (p : Int) := by omega
    clear hkl hml hpl hok
    go_enter Try.func28, Try.ntmps28
    go_wp2_with fail
    exact bodyPost_ret (v := .slice none 0 0) (by simp [results, Try.results28, go_sem]) rfl ⟨_, _, _, rfl, Ow.nil_ _ _ _ _, Below.refl _ _⟩
  have hp' : ¬ (200 : Int) < (p : Int) := by omega
  by_cases hm : m ≤ 100
  rotate_left
  · have hm' : (100 : Int) < (m : Int) := by omega
    clear hkl hml hpl hok
    go_enter Try.func28, Try.ntmps28
    go_wp2_with fail
    exact bodyPost_ret (v := .slice none 0 0) (by simp [results, Try.results28, go_sem]) rfl ⟨_, _, _, rfl, Ow.nil_ _ _ _ _, Below.refl _ _⟩
  have hm' : ¬ (100 : Int) < (m : Int) := by omega
  have hn' : (1048576 : Int) < (n : Int) := by
    refine Int.not_le.1 fun hn => hok ⟨by omega, by omega, by omega⟩
  clear hkl hml hpl hok
  go_enter Try.func28, Try.ntmps28
  go_wp2_with fail
  exact bodyPost_ret (v := .slice none 0 0) (by simp [results, Try.results28, go_sem]) rfl ⟨_, _, _, rfl, Ow.nil_ _ _ _ _, Below.refl _ _⟩

set_option maxHeartbeats 1000000 in
theorem I_Mix (A B D : Option Addr) (n c m d p r : Nat) (k hd b : List UInt8) (w : World) (h : Rd w A n c (bv k)) (g : Rd w B m d (bv hd)) (t : Rd w D p r (bv b)) :
    Calls Try.prog 28 #[.slice A n c, .slice B m d, .slice D p r] w fun e w' => Out 5 w (bv (mixL k hd b)) e w' := by
  by_cases hok : strOk k hd b.length
  rotate_left
  · rw [show mixL k hd b = [] by rw [mixL, if_neg hok]]
    exact I_Mix_no A B D n c m d p r k hd b w h g t hok
  have hkl : k.length = n := by have := h.len; rwa [bv_len] at this
  have hml : hd.length = m := by have := g.len; rwa [bv_len] at this
  have hpl : b.length = p := by have := t.len; rwa [bv_len] at this
  have hbd := h.bnd
  have hbd2 := g.bnd
  have hbd3 := t.bnd
  have HS := Lib.hid (show mixL k hd b = xorL b (streamL k hd b.length) by rw [mixL, if_pos hok])
  have HSL := Lib.hid (streamL_len k hd b.length hok)
  obtain ⟨⟨hq0, hq1⟩, hm, hn⟩ := hok
  have hp' : ¬ (200 : Int) < (p : Int) := by omega
  have hm' : ¬ (100 : Int) < (m : Int) := by omega
  have hn' : ¬ (1048576 : Int) < (n : Int) := by omega
  have HPL := Lib.hid hpl
  clear hkl hml hq0 hpl
  have B0 : Below w.heap.size w (w.alloc (.cells #[] 5)) := balloc (Below.refl _ _) _
  have e0 := own_empty w 5
  have C := Lib.hid (I_Stream A B n c m d k hd p (w.alloc (.cells #[] 5)) (h.alloc _) (g.alloc _))
  rw [← HPL.out] at C
  rw [HPL.out] at C
  go_enter Try.func28, Try.ntmps28
  go_wp2_with fail
  refine C.out.mono ?_
  rintro e W1 ⟨A6, n6, c6, rfl, o6, b6⟩
  have hst : (streamL k hd p).length = p := by have h1 := HSL.out; rw [HPL.out] at h1; omega
  have hn6 : p = n6 := by have h1 := o6.rd.len; rw [bv_len, hst] at h1; exact h1
  subst hn6
  have B1 := bnext B0 b6
  have r6 := o6.rd
  have s1 := B1.size
  have o0 := ((Ow.of_own e0).below b6 (Nat.le_refl _)).more b6.size
  rw [show (p : Int) = ((b.length : Nat) : Int) by have := HPL.out; omega] at o6 hst
  have HST := Lib.hid hst
  have o6' := o6
  clear hst C o6 r6
  have r6 := o6'.rd
  have hbd6 := r6.bnd
  clear r6
  go_wp2_with fail
  go_loopw [7, 30] (fun v i wr => ∃ (j c1 : Nat) (A1 : Option Addr), v = .slice A1 j c1 ∧ i = .int .i64 j ∧ j ≤ p ∧
      Hid (Ow wr 5 A1 j c1 w.heap.size wr.heap.size (bv (xorL (b.take j) (streamL k hd b.length)))) ∧ Hid (Ow wr 5 A6 p c6 w.heap.size wr.heap.size (bv (streamL k hd b.length))) ∧ Hid (Apart A1 A6 j c1 p c6) ∧ Below w.heap.size w wr)
    (fun _ i _ => p - (intOf i).toNat)
  case atStart => exact ⟨0, 0, _, rfl, rfl, by omega, o0, o6'.less B0.size, fun x h1 h2 => by have h3 := (o6'.rng x h2).1; simp [Value.ownBlock] at h1; simp at h3; omega, B1⟩
  case round =>
    obtain ⟨j, c1, A1, rfl, rfl, hj, HO, HS6, HAP, hb⟩ := hrel
    have r6 := HS6.out.rd
    have rb := t.below hb (Nat.le_refl _)
    by_cases hlt : j < p
    · have hlt' : (j : Int) < (p : Int) := by omega
      obtain ⟨gb, ob, rfl, hgb, hcb⟩ := rb.at_ (by omega)
      obtain ⟨gs, os, rfl, hgs, hcs⟩ := r6.at_ (by omega)
      have hjb : j < b.length := by have := HPL.out; omega
      have hjs : j < (streamL k hd b.length).length := by have := HST.out; have := HPL.out; omega
      have fb := hcb j _ (bv_get hjb)
      have fs := hcs j _ (bv_get hjs)
      have HF := Lib.hid (xorL_take b (streamL k hd b.length) j hjb hjs)
      generalize b[j] = y at *
      generalize (streamL k hd b.length)[j] = x at *
      clear hcb hcs hjb hjs
      have HI := Lib.hid (HO.out.own.alloc (.cells #[.int .u8 ((x.toNat ^^^ y.toNat : Nat) : Int)] 5))
      have hr1 := rd_xor wr 5 x y
      rw [UInt8.xor_comm] at hr1
      have q5 : j + 1 ≤ 70368744177664 := by omega
      have q6 : w.heap.size ≤ (wr.alloc (.cells #[.int .u8 ((x.toNat ^^^ y.toNat : Nat) : Int)] 5)).heap.size := by have := hb.size; simp; omega
      go_wp2_with (at_builtin; refine append_bytes_x _ rfl _ _ rfl w.heap.size _ _ _ _ rfl HI _ _ _ [y ^^^ x] rfl hr1 q5 q6 ?_; intro A3 c3 W3 HO3 g3 nx3)
      have ho3 := HO3.out
      rw [← HF.out] at ho3
      have T3 := two_step HO.out HS6.out HAP.out hb.size (balloc (Below.refl wr.heap.size wr) _) g3
      have b4 := hb.trans T3.2
      have ap3 := nx3.apart HAP.out HS6.out (Below.size (balloc (Below.refl wr.heap.size wr) _))
      go_roundw
      case rel => exact ⟨j + 1, c3, A3, rfl, by go_num, by omega, Ow.of_own ho3, T3.1, ap3, b4⟩
      case measure => simp [intOf]; omega
    · have hlt' : ¬ (j : Int) < (p : Int) := by omega
      have ho := HO.out
      rw [show b.take j = b from List.take_of_length_le (by have := HPL.out; omega)] at ho
      have HO8 := Lib.hid ho
      clear ho
      go_wp2_with fail
      exact bodyPost_ret (v := .slice A1 j c1) (by simp [results, Try.results28, go_sem]) rfl (by rw [HS.out]; exact ⟨_, _, _, rfl, HO8.out, hb⟩)

end Go.Proofs.Ytbjbncmhnhlkpaa
