/- Contracts of the drawing functions (package spec): l1New, l1Byte, l1Below, l1Int, l1Bytes. They say what is drawn only as far as the laws want it: a byte, a number below n, an element of the list, that many bytes. -/
import Derived.Test.YtnngiampfdjlfaaStep
namespace Go.Proofs.Ytnngiampfdjlfaa
open Go.ChangeShapes Go.WideShapes Go.ChangeAt Go.RowKit
set_option linter.unusedVariables false

/-- A cursor over the code l, in block g, laid since the world w0. -/
structure Dn (w0 w : World) (g : Nat) (A : Option Addr) (n c : Nat) (l : List UInt8) : Prop where
  bx : ∃ i h : Int, (w.cell? ⟨g, 0, none⟩ = some (.slice A n c) ∧ w.cell? ⟨g, 1, none⟩ = some (.int .i64 i) ∧ w.cell? ⟨g, 2, none⟩ = some (.int .i64 h)) ∧ 0 ≤ i ∧ i ≤ 9223372036854775807
  fr : ∀ o, w.frozen? ⟨g, o, none⟩ = false
  rd : Rd w0 A n c (bv l)
  bel : Below w0.heap.size w0 w
  lo : w0.heap.size ≤ g
  lt : g < w.heap.size
/-- All but block g is kept. -/
abbrev Kp (g : Nat) (w w' : World) : Prop := w.grownBy w' (some g)
theorem Kp.refl (g : Nat) (w : World) : Kp g w w := ⟨rfl, rfl, rfl, Nat.le_refl _, fun _ _ _ => rfl⟩
theorem Kp.trans {g : Nat} {a b c : World} (h : Kp g a b) (k : Kp g b c) : Kp g a c := grown_trans h k
theorem Kp.of_below {g : Nat} {w w' : World} (h : Below w.heap.size w w') : Kp g w w' := ⟨h.os, h.tape, h.output, h.size, fun k hk _ => h.block k hk⟩
theorem Kp.more {g : Nat} {w W w' : World} (h : Kp g w W) (b : Below w.heap.size W w') : Kp g w w' :=
  ⟨b.os.trans h.os, b.tape.trans h.tape, b.output.trans h.output, Nat.le_trans h.size b.size, fun k hk hne => (b.block k hk).trans (h.block k hk hne)⟩
theorem Kp.set_ {g : Nat} {w w' : World} (h : Kp g w w') (o : Nat) (v : Value) : Kp g w (w'.setCell ⟨g, o, none⟩ v) :=
  ⟨h.os, h.tape, h.output, by simpa using h.size, fun k hk hne => (heap_setCell_other w' ⟨g, o, none⟩ k v (fun e => hne (by rw [e]))).trans (h.block k hk hne)⟩
theorem Ow.kp {w w' : World} {t : TypeId} {A : Option Addr} {n c lo hi g : Nat} {xs : List Value} (h : Ow w t A n c lo hi xs) (hg : Kp g w w') (hlo : g < lo) : Ow w' t A n c lo hi xs := by
  refine ⟨h.own.kept hg ?_, h.lt⟩
  cases hv : (Value.slice A n c).ownBlock with
  | none => exact .inl rfl
  | some k => exact .inr fun e => by have := (h.rng k hv).1; injection e with e; omega
theorem Rd.kp {w w' : World} {A : Option Addr} {n c g : Nat} {xs : List Value} (h : Rd w A n c xs) (hg : Kp g w w') (hlo : ∀ b off, A = some ⟨b, off, none⟩ → b ≠ g) : Rd w' A n c xs :=
  ⟨h.len, h.le, h.max, fun hn => by
    obtain ⟨b, off, e, hb, hc⟩ := h.at_ hn
    exact ⟨b, off, e, Nat.lt_of_lt_of_le hb hg.size, fun j u hu => hg.cell (hc j u hu) (fun e' => hlo b off e (by injection e'))⟩⟩
section
variable {w0 w w' : World} {g : Nat} {A : Option Addr} {n c : Nat} {l : List UInt8}
theorem Dn.below (d : Dn w0 w g A n c l) (h : Below w.heap.size w w') : Dn w0 w' g A n c l := by
  obtain ⟨i, x, ⟨h0, h1, h2⟩, hi⟩ := d.bx
  have hl := d.lt
  exact ⟨⟨i, x, ⟨(h.cell (p := ⟨g, 0, none⟩) hl).trans h0, (h.cell (p := ⟨g, 1, none⟩) hl).trans h1, (h.cell (p := ⟨g, 2, none⟩) hl).trans h2⟩, hi⟩, fun o => (h.frozen (p := ⟨g, o, none⟩) hl).trans (d.fr o), d.rd, d.bel.trans (h.mono d.bel.size), d.lo, Nat.lt_of_lt_of_le hl h.size⟩
theorem Dn.belowX {X : Nat} (d : Dn w0 w g A n c l) (h : Below X w w') (hg : g < X) (h0 : w0.heap.size ≤ X) : Dn w0 w' g A n c l := by
  obtain ⟨i, x, ⟨c0, c1, c2⟩, hi⟩ := d.bx
  exact ⟨⟨i, x, ⟨(h.cell (p := ⟨g, 0, none⟩) hg).trans c0, (h.cell (p := ⟨g, 1, none⟩) hg).trans c1, (h.cell (p := ⟨g, 2, none⟩) hg).trans c2⟩, hi⟩, fun o => (h.frozen (p := ⟨g, o, none⟩) hg).trans (d.fr o), d.rd, d.bel.trans (h.mono h0), d.lo, Nat.lt_of_lt_of_le d.lt h.size⟩
theorem Dn.rdw (d : Dn w0 w g A n c l) : Rd w A n c (bv l) := d.rd.below d.bel (Nat.le_refl _)
/-- Whatever is drawn: another cursor state in the same block. -/
theorem Dn.next (d : Dn w0 w g A n c l) (k : Kp g w w') (bx : ∃ i h : Int, (w'.cell? ⟨g, 0, none⟩ = some (.slice A n c) ∧ w'.cell? ⟨g, 1, none⟩ = some (.int .i64 i) ∧ w'.cell? ⟨g, 2, none⟩ = some (.int .i64 h)) ∧ 0 ≤ i ∧ i ≤ 9223372036854775807)
    (fr : ∀ o, w'.frozen? ⟨g, o, none⟩ = false) : Dn w0 w' g A n c l :=
  ⟨bx, fr, d.rd, d.bel.trans (grown_below k (fun q hq => by have := d.lo; injection hq with hq; omega) d.bel.size), d.lo, Nat.lt_of_lt_of_le d.lt k.size⟩
end
theorem Dn.old {w0 w : World} {g : Nat} {A : Option Addr} {n c : Nat} {l : List UInt8} (d : Dn w0 w g A n c l) (h : 0 < n) : ∃ b off, A = some ⟨b, off, none⟩ ∧ b < w.heap.size ∧ b ≠ g ∧ ∀ j u, (bv l)[j]? = some u → w.cell? ⟨b, off + j, none⟩ = some u := by
  obtain ⟨b, off, e, hb, hc⟩ := d.rd.at_ h
  have h1 := d.lo
  have h2 := d.lt
  exact ⟨b, off, e, by omega, by omega, fun j u hu => (d.bel.cell (p := ⟨b, off + j, none⟩) hb).trans (hc j u hu)⟩

/-- What is drawn: a value with P, the cursor moved on, all else kept. -/
def Drew (w0 w : World) (g : Nat) (A : Option Addr) (n c : Nat) (l : List UInt8) (P : Value → World → Prop) (e : Ending) (w' : World) : Prop :=
  ∃ v, e = .returned v ∧ P v w' ∧ Dn w0 w' g A n c l ∧ Kp g w w'

theorem S_New (A : Option Addr) (n c : Nat) (l : List UInt8) (w : World) (h : Rd w A n c (bv l)) :
    Calls Try.prog 39 #[.slice A n c] w fun e w' => e = .returned (.pointer (some ⟨w.heap.size, 0, none⟩)) ∧ Dn w w' w.heap.size A n c l ∧ Below w.heap.size w w' := by
  have hl : l.length = n := by have := h.len; rwa [bv_len] at this
  have HL := Lib.hid hl
  have hbd := h.bnd
  clear hl
  go_enter Try.func39, Try.ntmps39
  go_wp2_with fail
  go_loopw [3, 4] (fun v i wr => ∃ (x : Int) (k : Nat), v = .int .i64 x ∧ i = .int .i64 k ∧ k ≤ n ∧ w = wr)
    (fun _ i _ => n - (intOf i).toNat)
  case atStart => exact ⟨_, 0, rfl, rfl, by omega, by first | rfl | trivial⟩
  case round =>
    obtain ⟨x, k, rfl, rfl, hk, rfl⟩ := hrel
    by_cases hlt : k < n
    · have hlt' : (k : Int) < (n : Int) := by omega
      by_cases h4 : (k : Int) < 4000
      · obtain ⟨b, off, rfl, hlb, hcl⟩ := h.at_ (by omega)
        have hkl : k < l.length := by have := HL.out; omega
        have fc := hcl k _ (bv_get hkl)
        generalize l[k] = y at *
        clear hcl hkl
        go_wp2_with fail
        go_roundw
        case rel => exact ⟨_, k + 1, rfl, by go_num, by omega, by first | rfl | trivial⟩
        case measure => simp [intOf]; omega
      · go_wp2_with fail
        go_ret
        refine ⟨rfl, ⟨⟨0, x, ⟨by simp [go_sem], by simp [go_sem], by simp [go_sem]⟩, by omega, by omega⟩, fun o => by simp [go_sem], h, balloc (Below.refl _ _) _, Nat.le_refl _, by simp⟩, balloc (Below.refl _ _) _⟩
    · have hlt' : ¬ (k : Int) < (n : Int) := by omega
      go_wp2_with fail
      go_ret
      refine ⟨rfl, ⟨⟨0, x, ⟨by simp [go_sem], by simp [go_sem], by simp [go_sem]⟩, by omega, by omega⟩, fun o => by simp [go_sem], h, balloc (Below.refl _ _) _, Nat.le_refl _, by simp⟩, balloc (Below.refl _ _) _⟩

theorem S_Byte (w0 w : World) (g : Nat) (A : Option Addr) (n c : Nat) (l : List UInt8) (d : Dn w0 w g A n c l) :
    Calls Try.prog 57 #[.pointer (some ⟨g, 0, none⟩)] w fun e w' => Drew w0 w g A n c l (fun v _ => ∃ x : Int, v = .int .i64 x ∧ 0 ≤ x ∧ x < 256) e w' := by
  obtain ⟨i, x, ⟨h0, h1, h2⟩, hi1, hi2⟩ := d.bx
  have hl : l.length = n := by have := d.rd.len; rwa [bv_len] at this
  have hbd := d.rd.bnd
  have f2 := d.fr 2
  have HL := Lib.hid hl
  have wr : ∀ z : Int, ∃ y, IntKind.i64.wrap z = y := fun z => ⟨_, rfl⟩
  clear hl
  go_enter Try.func57, Try.ntmps57
  go_wp2_with fail
  generalize hX : wrap64 (wrap64 (x * 6364136223846793005) + 1442695040888963407) = X
  obtain ⟨W1, hW1⟩ : ∃ V, V = w.setCell ⟨g, 2, none⟩ (.int .i64 X) := ⟨_, rfl⟩
  rw [← hW1]
  have k1 : Kp g w W1 := by rw [hW1]; exact (Kp.refl g w).set_ 2 _
  have y0 : W1.cell? ⟨g, 0, none⟩ = some (.slice A n c) := by rw [hW1]; simp [go_sem, h0]
  have y1 : W1.cell? ⟨g, 1, none⟩ = some (.int .i64 i) := by rw [hW1]; simp [go_sem, h1]
  have y2 : W1.cell? ⟨g, 2, none⟩ = some (.int .i64 X) := by rw [hW1]; simp [go_sem, h2]
  have fr1 : ∀ o, W1.frozen? ⟨g, o, none⟩ = false := by rw [hW1]; intro o; simpa [go_sem] using d.fr o
  have D1 : Dn w0 W1 g A n c l := d.next k1 ⟨i, X, ⟨y0, y1, y2⟩, hi1, hi2⟩ fr1
  have f1 := fr1 1
  have FR := Lib.hid fr1
  clear hW1 h0 h1 h2 hX f2 fr1 d wr
  by_cases hlt : i < (n : Int)
  · obtain ⟨q, rfl⟩ := Int.eq_ofNat_of_zero_le hi1
    obtain ⟨b, off, rfl, hlb, hbg, hcl⟩ := D1.old (by omega)
    have hkl : q < l.length := by have := HL.out; omega
    have fc := hcl q _ (bv_get hkl)
    generalize l[q] = y at *
    have hy := byte_lt y
    clear hcl hkl
    go_quiet (fail)
    go_wp2_with fail
    go_quiet (fail)
    go_wp2_with fail
    go_quiet (fail)
    go_wp2_with fail
    go_ret
    have k2 : ∀ z, Kp g W1 ((W1.drewN z).setCell ⟨g, 1, none⟩ (.int .i64 ((q : Int) + 1))) := fun z => (Kp.of_below (bdrewN (Below.refl _ _) _)).set_ 1 _
    refine ⟨_, rfl, ⟨_, rfl, by omega, by omega⟩, D1.next (k2 _) ⟨(q : Int) + 1, X, ⟨?_, ?_, ?_⟩, by omega, by omega⟩ ?_, k1.trans (k2 _)⟩
    · simp [go_sem, y0]
    · simp [go_sem, y1]
    · simp [go_sem, y2]
    · have fr := FR.out
      intro o
      simpa [go_sem] using fr o
  · go_quiet (fail)
    go_wp2_with fail
    go_quiet (fail)
    go_wp2_with fail
    go_ret
    refine ⟨_, rfl, ⟨_, rfl, by omega, by omega⟩, (D1.below (bdrewN (Below.refl _ _) _)).below (bdrewN (Below.refl _ _) _), k1.trans ((Kp.of_below (bdrewN (Below.refl _ _) _)).trans (Kp.of_below (bdrewN (Below.refl _ _) _)))⟩

theorem S_Below (w0 w : World) (g : Nat) (A : Option Addr) (n c : Nat) (l : List UInt8) (m : Int) (d : Dn w0 w g A n c l) :
    Calls Try.prog 58 #[.pointer (some ⟨g, 0, none⟩), .int .i64 m] w fun e w' => Drew w0 w g A n c l (fun v _ => ∃ x : Int, v = .int .i64 x ∧ 0 ≤ x ∧ (0 < m → x < m) ∧ (m ≤ 0 → x = 0)) e w' := by
  by_cases h0 : m ≤ 0
  · go_enter Try.func58, Try.ntmps58
    go_wp2_with fail
    go_ret
    exact ⟨_, rfl, ⟨0, rfl, by omega, by omega, by omega⟩, d, Kp.refl _ _⟩
  · by_cases h1 : m ≤ 256
    · go_enter Try.func58, Try.ntmps58
      go_wp2_with fail
      refine (S_Byte w0 w g A n c l d).mono ?_
      rintro e W1 ⟨v, rfl, ⟨x, rfl, hx0, hx1⟩, d1, k1⟩
      have hm0 : m ≠ 0 := by omega
      go_wp2_with fail
      go_ret
      have e1 := Int.emod_nonneg x hm0
      have e2 := Int.emod_lt_of_pos x (show 0 < m by omega)
      exact ⟨_, rfl, ⟨_, rfl, e1, fun _ => e2, fun h => by omega⟩, d1, k1⟩
    · go_enter Try.func58, Try.ntmps58
      go_wp2_with fail
      refine (S_Byte w0 w g A n c l d).mono ?_
      rintro e W1 ⟨v, rfl, ⟨x, rfl, hx0, hx1⟩, d1, k1⟩
      go_wp2_with fail
      refine (S_Byte w0 W1 g A n c l d1).mono ?_
      rintro e W2 ⟨v, rfl, ⟨y, rfl, hy0, hy1⟩, d2, k2⟩
      go_wp2_with fail
      refine (S_Byte w0 W2 g A n c l d2).mono ?_
      rintro e W3 ⟨v, rfl, ⟨z, rfl, hz0, hz1⟩, d3, k3⟩
      have hm0 : m ≠ 0 := by omega
      go_wp2_with fail
      go_ret
      have e1 := Int.emod_nonneg (x * 65536 + y * 256 + z) hm0
      have e2 := Int.emod_lt_of_pos (x * 65536 + y * 256 + z) (show 0 < m by omega)
      exact ⟨_, rfl, ⟨_, rfl, e1, fun _ => e2, fun h => by omega⟩, d3, (k1.trans k2).trans k3⟩

theorem S_Int (w0 w : World) (g : Nat) (A : Option Addr) (n c : Nat) (l : List UInt8) (B : Option Addr) (m q : Nat) (zs : List Int) (d : Dn w0 w g A n c l) (h : Rd w B m q (iv zs)) (hm : 0 < m) (hB : ∀ b off, B = some ⟨b, off, none⟩ → b ≠ g) :
    Calls Try.prog 41 #[.pointer (some ⟨g, 0, none⟩), .slice B m q] w fun e w' => Drew w0 w g A n c l (fun v _ => ∃ x : Int, v = .int .i64 x ∧ x ∈ zs) e w' := by
  have hl : zs.length = m := by have := h.len; rwa [iv_len] at this
  have hbd := h.bnd
  have HL := Lib.hid hl
  clear hl
  go_enter Try.func41, Try.ntmps41
  go_wp2_with fail
  refine (S_Below w0 w g A n c l m d).mono ?_
  rintro e W1 ⟨v, rfl, ⟨x, rfl, hx0, hx1, _⟩, d1, k1⟩
  have hx2 := hx1 (by omega)
  obtain ⟨x, rfl⟩ := Int.eq_ofNat_of_zero_le hx0
  have h2 := h.kp k1 hB
  obtain ⟨b, off, rfl, hlb, hcl⟩ := h2.at_ hm
  have hkl : x < zs.length := by have := HL.out; omega
  have fc := hcl x _ (iv_get hkl)
  have hmem : zs[x] ∈ zs := List.getElem_mem hkl
  generalize zs[x] = y at *
  clear hcl hkl hx1
  go_wp2_with fail
  go_ret
  exact ⟨_, rfl, ⟨_, rfl, hmem⟩, d1, k1⟩

/-- Fresh bytes, so many. -/
def Fresh (w : World) (P : List UInt8 → Prop) (v : Value) (w' : World) : Prop := ∃ A n c r, v = .slice A n c ∧ Ow w' 5 A n c w.heap.size w'.heap.size (bv r) ∧ P r

theorem S_Bytes (w0 w : World) (g : Nat) (A : Option Addr) (n c : Nat) (l : List UInt8) (m : Int) (d : Dn w0 w g A n c l) (hm : m ≤ 1048576) :
    Calls Try.prog 40 #[.pointer (some ⟨g, 0, none⟩), .int .i64 m] w fun e w' => Drew w0 w g A n c l (fun v w' => Fresh w (fun r => r.length = m.toNat) v w') e w' := by
  have hg := d.lt
  go_enter Try.func40, Try.ntmps40
  go_wp2_with fail
  go_loopw [5, 6] (fun v i wr => ∃ (k c' : Nat) (A' : Option Addr) (r : List UInt8), v = .slice A' k c' ∧ i = .int .i64 k ∧ k ≤ m.toNat ∧
      Hid (Ow wr 5 A' k c' w.heap.size wr.heap.size (bv r)) ∧ Dn w0 wr g A n c l ∧ Kp g w wr)
    (fun _ i _ => m.toNat - (intOf i).toNat)
  case atStart => exact ⟨0, 0, _, [], rfl, rfl, by omega, Ow.of_own (own_empty w _), d.below (balloc (Below.refl _ _) _), Kp.of_below (balloc (Below.refl _ _) _)⟩
  case round =>
    obtain ⟨k, c', A', r, rfl, rfl, hk, HO, dr, kr⟩ := hrel
    by_cases hlt : (k : Int) < m
    · go_wp2_with fail
      refine (S_Byte w0 wr g A n c l dr).mono ?_
      rintro e W1 ⟨v, rfl, ⟨x, rfl, hx0, hx1⟩, d1, k1⟩
      obtain ⟨x, rfl⟩ := Int.eq_ofNat_of_zero_le hx0
      have hx : (UInt8.ofNat x).toNat = x := by simp; omega
      have hs := kr.size
      have o1 := HO.out.kp k1 (by omega)
      have HI := Lib.hid (o1.own.alloc (.cells #[.int .u8 (x : Int)] 5))
      have hr1 : Rd (W1.alloc (.cells #[.int .u8 (x : Int)] 5)) (some ⟨W1.heap.size, 0, none⟩) 1 1 (bv [UInt8.ofNat x]) := by
        have h := rd_one W1 5 (.int .u8 (x : Int))
        simpa [bv, hx] using h
      have hx8 : IntKind.u8.wrap (x : Int) = x := by rw [IntKind.wrap_u8]; omega
      have q5 : k + 1 ≤ 70368744177664 := by omega
      have q6 : ∀ o, w.heap.size ≤ (W1.alloc o).heap.size := fun o => by have := k1.size; simp; omega
      go_wp2_with (at_builtin; refine append_bytes _ rfl _ _ rfl w.heap.size _ _ _ _ rfl HI _ _ _ [UInt8.ofNat x] rfl hr1 q5 (q6 _) ?_; intro A2 c2 W2 HO2 hb2)
      have b2 := (Below.alloc (Below.refl w.heap.size W1) (Nat.le_trans hs k1.size) (.cells #[.int .u8 (x : Int)] 5)).trans hb2
      go_roundw
      case rel => exact ⟨k + 1, c2, A2, _, rfl, by go_num, by omega, Ow.of_own HO2.out, d1.belowX b2 hg d.bel.size, (kr.trans k1).more b2⟩
      case measure => simp [intOf]; omega
    · go_wp2_with fail
      go_ret
      refine ⟨_, rfl, ⟨A', k, c', r, rfl, HO.out, ?_⟩, dr, kr⟩
      have h1 := HO.out.rd.len
      rw [bv_len] at h1
      omega

end Go.Proofs.Ytnngiampfdjlfaa
