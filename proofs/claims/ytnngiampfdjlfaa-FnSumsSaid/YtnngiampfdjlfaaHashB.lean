/- Contract of the reference's HashAdd: for every Hash and every slice of bytes. -/
import Derived.Test.YtnngiampfdjlfaaHashA
import Derived.Deep.RegionHeld3
import Derived.Deep.Cut
import Derived.Deep.RegionWith
namespace Go.Proofs.Ytnngiampfdjlfaa
open Go.ChangeShapes Go.WideShapes Go.ChangeAt Go.RowKit
set_option linter.unusedVariables false

set_option maxHeartbeats 2000000 in
theorem S_HashAdd (A B : Option Addr) (n c m d : Nat) (l : List Int) (h : List UInt8) (k : Int) (C : Option Addr) (p q : Nat) (b : List UInt8) (w : World) (r1 : Rd w A n c (iv l)) (r2 : Rd w B m d (bv h)) (r3 : Rd w C p q (bv b)) (hm1 : m ≤ 4000000) (hp1 : p ≤ 4000000) (hn1 : n ≤ 8796093022208) :
    Calls Try.prog 11 #[hashV A n c B m d k, .slice C p q] w fun e w' => OutH w (addW l h k b) (addH l h k b) (addN l h k b) e w' := by
  have hb1 := r1.bnd
  have hb2 := r2.bnd
  have hb3 := r3.bnd
  obtain ⟨W00, hW00⟩ : ∃ V, V = w.alloc (.cells #[.slice A n c, .slice B m d, .int .i64 k] 31) := ⟨_, rfl⟩
  obtain ⟨W0, hW0⟩ : ∃ V, V = W00.alloc (.cells #[.slice none 0 0, .slice none 0 0, .int .i64 0] 31) := ⟨_, rfl⟩
  have B00 : Below w.heap.size w W00 := by rw [hW00]; exact balloc (Below.refl _ _) _
  have z00 : W00.heap.size = w.heap.size + 1 := by rw [hW00]; simp
  have B0 : Below w.heap.size w W0 := by rw [hW0]; exact balloc B00 _
  have z0 : W0.heap.size = w.heap.size + 1 + 1 := by rw [hW0]; simp [z00]
  have X0 : Bx W0 w.heap.size (.slice A n c) (.slice B m d) (.int .i64 k) := by
    have : Bx W00 w.heap.size (.slice A n c) (.slice B m d) (.int .i64 k) := by rw [hW00]; exact Bx.new _ _ _ _ _
    exact this.below (X := W00.heap.size) (by rw [hW0]; exact balloc (Below.refl _ _) _) (by omega)
  have Y0 : Wx W0 (w.heap.size + 1) (.slice none 0 0) (.slice none 0 0) (.int .i64 0) := by rw [hW0, ← z00]; exact Wx.new _ _ _ _ _
  have HW0 : Hid (W0 = (w.alloc (.cells #[.slice A n c, .slice B m d, .int .i64 k] 31)).alloc (.cells #[.slice none 0 0, .slice none 0 0, .int .i64 0] 31)) := by rw [← hW00]; exact hW0
  clear hW0 hW00
  have X2 := X0
  have r1V := r1.below B0 (Nat.le_refl _)
  have r2V := r2.below B0 (Nat.le_refl _)
  have q5 : 0 + n ≤ 70368744177664 / 8 := by omega
  have q6 : 0 + m ≤ 70368744177664 := by omega
  have zx : w.heap.size < W0.heap.size := by omega
  have Z0 := Lib.hid (And.intro z0 z00)
  clear z0 z00
  go_enter Try.func11, Try.ntmps11
  go_upto_region 1 with fail
  rw [← HW0.out]
  go_cut [5] from 8 (fun s5 wx => HaR W0 n m l h k s5 wx)
  case first =>
    clear X0 Y0 HW0 B00 B0 r1 r2 r3
    go_region_held3 (fun w' => w'.cell? ⟨w.heap.size, 0, none⟩ = some (.slice A n c) ∧ w'.cell? ⟨w.heap.size, 1, none⟩ = some (.slice B m d) ∧ w'.cell? ⟨w.heap.size, 2, none⟩ = some (.int .i64 k))
      (first | (refine three (X2.below (X := W0.heap.size) ?_ zx); (repeat (first | with_reducible exact Below.refl _ _ | exact bW6 | exact bW4 | with_reducible refine bdrew ?_ | with_reducible refine balloc ?_ _)); done) | exact three (X2.below (Below.setCell (Below.setCell (Below.setCell bW6 bo6.lo _) bo6.lo _) bo6.lo _) zx))
      (first
        | (refine step_fresh_ints W0 _ rfl _ _ rfl _ _ rfl _ _ _ l rfl r1V q5 ?_ ?_ ?_; (focus ((repeat (first | with_reducible exact Below.refl _ _ | exact bW6 | exact bW4 | with_reducible refine bdrew ?_ | with_reducible refine balloc ?_ _)); done)); (focus ((repeat (first  | ((with_reducible refine Ro.fresh' ?_ _ ?_); (focus ((repeat (first | with_reducible exact Below.refl _ _ | exact bW6 | exact bW4 | with_reducible refine bdrew ?_ | with_reducible refine balloc ?_ _)); done)); (focus (simp; done))) | with_reducible refine Ro.drew ?_ | with_reducible refine Ro.alloc ?_ _)); done)); intro A4 c4 W4 ro4 bW4 k4 x4; (first | (refine (fun rb4 : Ro W0 W4 5 (some ⟨W0.heap.size, 0, none⟩) 0 0 [] => ?_) ?_; rotate_left; (focus (refine k4 _ _ _ _ _ ?_ (by decide); (repeat (first  | ((with_reducible refine Ro.fresh' ?_ _ ?_); (focus ((repeat (first | with_reducible exact Below.refl _ _ | exact bW6 | exact bW4 | with_reducible refine bdrew ?_ | with_reducible refine balloc ?_ _)); done)); (focus (simp; done))) | with_reducible refine Ro.drew ?_ | with_reducible refine Ro.alloc ?_ _)); done))) | (refine (fun rb4 : Ro W0 W4 5 (some ⟨(W0.heap.size + 1), 0, none⟩) 0 0 [] => ?_) ?_; rotate_left; (focus (refine k4 _ _ _ _ _ ?_ (by decide); (repeat (first  | ((with_reducible refine Ro.fresh' ?_ _ ?_); (focus ((repeat (first | with_reducible exact Below.refl _ _ | exact bW6 | exact bW4 | with_reducible refine bdrew ?_ | with_reducible refine balloc ?_ _)); done)); (focus (simp; done))) | with_reducible refine Ro.drew ?_ | with_reducible refine Ro.alloc ?_ _)); done))) | (refine (fun rb4 : Ro W0 W4 5 (some ⟨(W0.heap.size + 1 + 1), 0, none⟩) 0 0 [] => ?_) ?_; rotate_left; (focus (refine k4 _ _ _ _ _ ?_ (by decide); (repeat (first  | ((with_reducible refine Ro.fresh' ?_ _ ?_); (focus ((repeat (first | with_reducible exact Below.refl _ _ | exact bW6 | exact bW4 | with_reducible refine bdrew ?_ | with_reducible refine balloc ?_ _)); done)); (focus (simp; done))) | with_reducible refine Ro.drew ?_ | with_reducible refine Ro.alloc ?_ _)); done))) | (refine (fun rb4 : Ro W0 W4 5 (some ⟨(W0.heap.size + 2), 0, none⟩) 0 0 [] => ?_) ?_; rotate_left; (focus (refine k4 _ _ _ _ _ ?_ (by decide); (repeat (first  | ((with_reducible refine Ro.fresh' ?_ _ ?_); (focus ((repeat (first | with_reducible exact Below.refl _ _ | exact bW6 | exact bW4 | with_reducible refine bdrew ?_ | with_reducible refine balloc ?_ _)); done)); (focus (simp; done))) | with_reducible refine Ro.drew ?_ | with_reducible refine Ro.alloc ?_ _)); done))) | skip); (first | (refine (fun bo4 : Bo W0 W4 31 W0.heap.size (.slice none 0 0) (.slice none 0 0) (.int .i64 0) => ?_) ?_; rotate_left; (focus (refine x4 _ _ _ _ _ ?_ (by decide); (repeat (first  | ((with_reducible refine Bo.fresh' ?_ _ _ _ _ ?_); (focus ((repeat (first | with_reducible exact Below.refl _ _ | exact bW6 | exact bW4 | with_reducible refine bdrew ?_ | with_reducible refine balloc ?_ _)); done)); (focus (simp; done))) | with_reducible refine Bo.drew ?_ | with_reducible refine Bo.alloc ?_ _)); done))) | (refine (fun bo4 : Bo W0 W4 31 (W0.heap.size + 1) (.slice none 0 0) (.slice none 0 0) (.int .i64 0) => ?_) ?_; rotate_left; (focus (refine x4 _ _ _ _ _ ?_ (by decide); (repeat (first  | ((with_reducible refine Bo.fresh' ?_ _ _ _ _ ?_); (focus ((repeat (first | with_reducible exact Below.refl _ _ | exact bW6 | exact bW4 | with_reducible refine bdrew ?_ | with_reducible refine balloc ?_ _)); done)); (focus (simp; done))) | with_reducible refine Bo.drew ?_ | with_reducible refine Bo.alloc ?_ _)); done))) | (refine (fun bo4 : Bo W0 W4 31 (W0.heap.size + 1 + 1) (.slice none 0 0) (.slice none 0 0) (.int .i64 0) => ?_) ?_; rotate_left; (focus (refine x4 _ _ _ _ _ ?_ (by decide); (repeat (first  | ((with_reducible refine Bo.fresh' ?_ _ _ _ _ ?_); (focus ((repeat (first | with_reducible exact Below.refl _ _ | exact bW6 | exact bW4 | with_reducible refine bdrew ?_ | with_reducible refine balloc ?_ _)); done)); (focus (simp; done))) | with_reducible refine Bo.drew ?_ | with_reducible refine Bo.alloc ?_ _)); done))) | (refine (fun bo4 : Bo W0 W4 31 (W0.heap.size + 2) (.slice none 0 0) (.slice none 0 0) (.int .i64 0) => ?_) ?_; rotate_left; (focus (refine x4 _ _ _ _ _ ?_ (by decide); (repeat (first  | ((with_reducible refine Bo.fresh' ?_ _ _ _ _ ?_); (focus ((repeat (first | with_reducible exact Below.refl _ _ | exact bW6 | exact bW4 | with_reducible refine bdrew ?_ | with_reducible refine balloc ?_ _)); done)); (focus (simp; done))) | with_reducible refine Bo.drew ?_ | with_reducible refine Bo.alloc ?_ _)); done))) | skip); clear k4 x4)
        | (refine step_fresh_bytes W0 _ rfl _ _ rfl _ _ rfl _ _ _ h rfl r2V q6 ?_ ?_ ?_; (focus ((repeat (first | with_reducible exact Below.refl _ _ | exact bW6 | exact bW4 | with_reducible refine bdrew ?_ | with_reducible refine balloc ?_ _)); done)); (focus ((repeat (first | with_reducible exact rb4 | ((with_reducible refine Ro.fresh' ?_ _ ?_); (focus ((repeat (first | with_reducible exact Below.refl _ _ | exact bW6 | exact bW4 | with_reducible refine bdrew ?_ | with_reducible refine balloc ?_ _)); done)); (focus (simp; done))) | with_reducible refine Ro.drew ?_ | with_reducible refine Ro.alloc ?_ _)); done)); intro A6 c6 W6 ro6 bW6 k6 x6; (refine (fun ri6 : Ro W0 W6 3 A4 n c4 (iv l) => ?_) ?_; rotate_left; (focus (refine k6 _ _ _ _ _ ?_ (by decide); (repeat (first | with_reducible exact ro4 | with_reducible refine Ro.drew ?_ | with_reducible refine Ro.alloc ?_ _)); done))); (first | (refine (fun bo6 : Bo W0 W6 31 W0.heap.size (.slice none 0 0) (.slice none 0 0) (.int .i64 0) => ?_) ?_; rotate_left; (focus (refine x6 _ _ _ _ _ ?_ (by decide); (repeat (first | with_reducible exact bo4 | with_reducible refine Bo.drew ?_ | with_reducible refine Bo.alloc ?_ _)); done))) | (refine (fun bo6 : Bo W0 W6 31 (W0.heap.size + 1) (.slice none 0 0) (.slice none 0 0) (.int .i64 0) => ?_) ?_; rotate_left; (focus (refine x6 _ _ _ _ _ ?_ (by decide); (repeat (first | with_reducible exact bo4 | with_reducible refine Bo.drew ?_ | with_reducible refine Bo.alloc ?_ _)); done))) | (refine (fun bo6 : Bo W0 W6 31 (W0.heap.size + 1 + 1) (.slice none 0 0) (.slice none 0 0) (.int .i64 0) => ?_) ?_; rotate_left; (focus (refine x6 _ _ _ _ _ ?_ (by decide); (repeat (first | with_reducible exact bo4 | with_reducible refine Bo.drew ?_ | with_reducible refine Bo.alloc ?_ _)); done))) | (refine (fun bo6 : Bo W0 W6 31 (W0.heap.size + 2) (.slice none 0 0) (.slice none 0 0) (.int .i64 0) => ?_) ?_; rotate_left; (focus (refine x6 _ _ _ _ _ ?_ (by decide); (repeat (first | with_reducible exact bo4 | with_reducible refine Bo.drew ?_ | with_reducible refine Bo.alloc ?_ _)); done))) | (refine (fun bo6 : Bo W0 W6 31 W4.heap.size (.slice none 0 0) (.slice none 0 0) (.int .i64 0) => ?_) ?_; rotate_left; (focus (refine x6 _ _ _ _ _ ?_ (by decide); (repeat (first  | ((with_reducible refine Bo.fresh' ?_ _ _ _ _ ?_); (focus ((repeat (first | with_reducible exact Below.refl _ _ | exact bW6 | exact bW4 | with_reducible refine bdrew ?_ | with_reducible refine balloc ?_ _)); done)); (focus (simp; done))) | with_reducible refine Bo.drew ?_ | with_reducible refine Bo.alloc ?_ _)); done))) | (refine (fun bo6 : Bo W0 W6 31 (W4.heap.size + 1) (.slice none 0 0) (.slice none 0 0) (.int .i64 0) => ?_) ?_; rotate_left; (focus (refine x6 _ _ _ _ _ ?_ (by decide); (repeat (first  | ((with_reducible refine Bo.fresh' ?_ _ _ _ _ ?_); (focus ((repeat (first | with_reducible exact Below.refl _ _ | exact bW6 | exact bW4 | with_reducible refine bdrew ?_ | with_reducible refine balloc ?_ _)); done)); (focus (simp; done))) | with_reducible refine Bo.drew ?_ | with_reducible refine Bo.alloc ?_ _)); done))) | skip); (first | (obtain ⟨⟨y0, y1, y2⟩, yf⟩ := bo6.bx; have yf0 := yf 0; have yf1 := yf 1; have yf2 := yf 2; clear yf) | skip); clear k6 x6))
    all_goals go_wp2_with fail
    all_goals go_meet
    all_goals first
      | exact HaR.new ri6 ro6 bW6 (by decide) (by decide)
      | exact HaR.set bo6 ri6 ro6 bW6 (by decide) (by decide)
      | skip
  case rest =>
    obtain ⟨g, A1, c1, B1, d1, rfl, X1, hg0, hg1, e1, e2, ri, rb, BW⟩ := hcut
    have BW0 := bnext B0 BW
    have XC := X0.below BW zx
    have YC := Y0.below BW (by have := Z0.out.1; omega)
    have zy : w.heap.size + 1 < W0.heap.size := by have := Z0.out.1; omega
    have gx : w.heap.size ≠ g := by omega
    have gy : w.heap.size + 1 ≠ g := by omega
    have CO := Lib.hid (S_HashOk A B n c m d l h k wc (r1.below BW0 (Nat.le_refl _)) (r2.below BW0 (Nat.le_refl _)))
    have r3C := r3.below BW0 (Nat.le_refl _)
    have hn : l.length = n := by have := r1.len; rwa [iv_len] at this
    have hm : h.length = m := by have := r2.len; rwa [bv_len] at this
    have hp : b.length = p := by have := r3.len; rwa [bv_len] at this
    clear X0 Y0 X2 HW0 B00 r1V r2V q5 q6
    by_cases hok : hOk l h k = true
    · have CO2 := Lib.hid (CO.out.mono fun e w' h' => (⟨by rw [h'.1, hok], h'.2⟩ : e = .returned (.bool true) ∧ Below wc.heap.size wc w'))
      have hkr := ((hOk_iff l h k).1 hok).2.1
      have wk : IntKind.i64.wrap (1048576 - k) = 1048576 - k := by rw [IntKind.wrap_i64]; omega
      by_cases hlong : 1048576 - k < (p : Int)
      · have hno : ¬ addOk l h k b := fun x => by have := x.2; omega
        have HR := Lib.hid (show addW l h k b = l ∧ addH l h k b = h ∧ addN l h k b = k from ⟨by rw [addW, if_neg hno], by rw [addH, if_neg hno], by rw [addN, if_neg hno]⟩)
        clear hno CO hok hn hm hp
        obtain ⟨x0, x1, x2⟩ := id XC
        go_wp2_with fail
        clear x0 x1 x2
        refine CO2.out.mono ?_
        rintro e W1 ⟨rfl, b1⟩
        have s1 := b1.size
        have X3 := XC.below b1 (by omega)
        have Y3 := YC.below b1 (by omega)
        have O3 := X1.below b1 hg1
        have ri3 := Ow.below ri b1 (Nat.le_refl _)
        have rb3 := Ow.below rb b1 (Nat.le_refl _)
        obtain ⟨x0, x1, x2⟩ := X3
        obtain ⟨o0, o1, o2, o3, o4, o5⟩ := O3.cells3
        obtain ⟨y0, y1, y2, y3, y4, y5⟩ := Y3.cells3
        go_wp2_with fail
        rw [HR.out.1, HR.out.2.1, HR.out.2.2]
        refine bodyPost_ret (v := .agg #[.slice A1 n c1, .slice B1 m d1, .int .i64 k]) (by simp [results, Try.results11, go_sem, y0, y1, y2]) rfl ⟨A1, n, c1, B1, m, d1, rfl, ⟨?_, ?_⟩, ?_⟩
        · exact (((ri3.set_ (by exact zy) _).set_ (by exact zy) _).set_ (by exact zy) _).less (by omega) |>.more (by simp; omega)
        · exact (((rb3.set_ (by exact zy) _).set_ (by exact zy) _).set_ (by exact zy) _).less (by omega) |>.more (by simp; omega)
        · repeat (first | exact bnext BW0 b1 | refine Below.setCell ?_ (by simp <;> omega) _)
      · have hyes : addOk l h k b := ⟨hok, by omega⟩
        have HR := Lib.hid (show addW l h k b = allL l (h ++ b) ((h ++ b).length / 64) ∧ addH l h k b = (h ++ b).drop (64 * ((h ++ b).length / 64)) ∧ addN l h k b = k + (p : Int) from ⟨by rw [addW, if_pos hyes], by rw [addH, if_pos hyes], by rw [addN, if_pos hyes, hp]⟩)
        have h8 : n = 8 := by have := ((wordsB_iff l).1 ((hOk_iff l h k).1 hok).1).2; omega
        have wkp : IntKind.i64.wrap (k + (p : Int)) = k + (p : Int) := by rw [IntKind.wrap_i64]; omega
        have HL8 := Lib.hid (hn.trans h8)
        have HT := Lib.hid (show (h ++ b).length = m + p by rw [List.length_append, hm, hp])
        have hT : m + p ≤ 8000000 := by omega
        clear hyes CO hok hn hm hp h8
        obtain ⟨x0, x1, x2⟩ := id XC
        go_wp2_with fail
        clear x0 x1 x2
        refine CO2.out.mono ?_
        rintro e W1 ⟨rfl, b1⟩
        have s1 := b1.size
        have X3 := XC.below b1 (by omega)
        have Y3 := YC.below b1 (by omega)
        have O3 := X1.below b1 hg1
        have ri3 := Ow.below ri b1 (Nat.le_refl _)
        have rb3 := Ow.below rb b1 (Nat.le_refl _)
        have B3 := bnext BW0 b1
        have BW3 : Below W0.heap.size W0 W1 := BW.trans (b1.mono BW.size)
        have gw : w.heap.size ≤ g := by omega
        have r3D := r3.below (B3.setCell (p := (⟨g, 2, none⟩ : Addr)) gw (.int .i64 (k + (p : Int)))) (Nat.le_refl _)
        obtain ⟨x0, x1, x2⟩ := X3
        obtain ⟨o0, o1, o2, o3, o4, o5⟩ := O3.cells3
        have O3' := O3.set2 (a := .int .i64 (k + (p : Int)))
        have Y3' := Y3.far (p := (⟨g, 2, none⟩ : Addr)) (a := .int .i64 (k + (p : Int))) (Ne.symm gy)
        have HI : Hid ((W1.setCell ⟨g, 2, none⟩ (.int .i64 (k + (p : Int)))).ownsRow W0.heap.size 5 1 (.slice B1 m d1) m (bv h)) := Lib.hid (ownsRow_setCell_other rb3.own (fun e => e2 _ e rfl) _)
        have ri4 := Lib.hid (show Ro W0 (W1.setCell ⟨g, 2, none⟩ (.int .i64 (k + (p : Int)))) 3 A1 n c1 (iv l) from Ro.set_ne (Ow.more ri3 s1) e1 _)
        have rb4 := Lib.hid (show Ro W0 (W1.setCell ⟨g, 2, none⟩ (.int .i64 (k + (p : Int)))) 5 B1 m d1 (bv h) from Ro.set_ne (Ow.more rb3 s1) e2 _)
        have BW4 : Below W0.heap.size W0 (W1.setCell ⟨g, 2, none⟩ (.int .i64 (k + (p : Int)))) := BW3.setCell hg0 _
        have qa : m + p ≤ 70368744177664 := by omega
        have qb := BW4.size
        clear ri3 rb3 O3
        go_wp2_with (at_builtin; refine append_bytes_x _ rfl _ _ rfl W0.heap.size _ _ _ h rfl HI _ _ _ b rfl r3D qa qb ?_; intro A3 c3 W3 HO3 G3 N3)
        clear HI r3D qa qb x0 x1 x2 o0 o1 o2 o3 o4 o5
        have ne3 : (Value.slice B1 m d1).ownBlock ≠ some g := fun e => e2 _ e rfl
        have O5 := O3'.grown G3 ne3 (by simpa using Nat.lt_of_lt_of_le hg1 s1)
        have Y5 := Y3'.grown G3 (fun e => by have := (rb4.out.rng _ e).1; omega) (by simp; omega)
        have ri5 := Lib.hid (ri4.out.other rb4.out (by decide) G3)
        have BW5 : Below W0.heap.size W0 W3 := BW4.trans (grown_below G3 (fun k hk => (rb4.out.rng k hk).1) BW4.size)
        have e3 : ∀ x, (Value.slice A3 (m + p) c3).ownBlock = some x → x ≠ g := fun x hx => by
          rcases N3 x hx with h1 | h1
          · exact e2 _ h1
          · simp at h1; omega
        have HRA := Lib.hid (Ro.of HO3.out)
        have HBD := Lib.hid (own_rd HO3.out).bnd
        generalize hall : h ++ b = all at *
        clear hall HO3 G3 N3 O3' Y3' rb4 ri4 BW4 BW3 B3 s1 b1 rb ri XC YC X1 CO2 r3C
        generalize m + p = T at *
        have g3 : g < W3.heap.size := O5.lt
        go_loopw [7] (fun i wr => ∃ (j p' n' c' : Nat) (A' : Option Addr), i = .int .i64 p' ∧ Hid (p' = 64 * j) ∧ p' ≤ T ∧
            Wx wr g (.slice A' n' c') (.slice B1 m d1) (.int .i64 (k + (p : Int))) ∧ Hid (Ro W0 wr 3 A' n' c' (iv (allL l all j))) ∧ (∀ x, (Value.slice A' n' c').ownBlock = some x → x ≠ g) ∧ W3.grownBy wr (some g))
          (fun i _ => T - (intOf i).toNat)
        case atStart => exact ⟨0, 0, n, c1, A1, rfl, rfl, by omega, O5, ri5, e1, grown_below_of (Below.refl _ _) _⟩
        case round =>
          obtain ⟨j, p', n', c', A', rfl, HJ, hp', O6, HA, e6, G6⟩ := hrel
          have hra := HRA.out.kept G6 e3
          have gl := O6.lt
          have hbd := HBD.out
          by_cases hlt : p' + 64 ≤ T
          · have hlt' : (p' : Int) + 64 ≤ (T : Int) := by omega
            have hn' : n' ≤ 8796093022208 := by have h1 := HA.out.rd.len; rw [iv_len, allL_len, HL8.out] at h1; omega
            have hD := hra.rd.drew.cut p' 64 hlt
            rw [if_neg (by omega), bv_cut] at hD
            have CC := Lib.hid (S_Compress _ _ _ _ _ _ (allL l all j) ((all.drop p').take 64) wr.drew HA.out.rd.drew hD hn')
            obtain ⟨o0, o1, o2, o3, o4, o5⟩ := O6.cells3
            have w64 : IntKind.i64.wrap ((p' : Int) + 64) = (p' : Int) + 64 := by rw [IntKind.wrap_i64]; omega
            have t0 : (0 : Int) ≤ (p' : Int) := by omega
            have t1 : (p' : Int) ≤ (p' : Int) + 64 := by omega
            have t2 : (p' : Int) + 64 ≤ (c3 : Int) := by omega
            have t3 : ¬ c3 = p' := by omega
            have t4 : ((p' : Int) + 64).toNat - p' = 64 := by omega
            have O6D := O6.below (bdrew (Below.refl wr.heap.size wr)) gl
            clear hra hD
            go_wp2_with fail
            go_region_with (first | (go_at_call 30; refine CC.out.mono ?_; rintro e W5 ⟨A5, n5, c5, rfl, ow5, b5⟩; obtain ⟨z0, z1, z2, z3, z4, z5⟩ := (O6D.below b5 gl).cells3))
            all_goals
              have O7 := (O6D.below b5 gl).set0 (a := .slice A5 n5 c5)
              have b5' : Below wr.heap.size wr W5 := (bdrew (Below.refl _ _)).trans b5
              have HA7 := Lib.hid (show Ro W0 (W5.setCell ⟨g, 0, none⟩ (.slice A5 n5 c5)) 3 A5 n5 c5 (iv (allL l all (j + 1))) from by
                have o := ((ow5.set_ (a := ⟨g, 0, none⟩) gl (.slice A5 n5 c5)).less (lo' := W0.heap.size) (Nat.le_trans BW5.size G6.size)).more (hi' := (W5.setCell ⟨g, 0, none⟩ (.slice A5 n5 c5)).heap.size) (by simp)
                rw [HJ.out] at o
                exact o)
              have e7 : ∀ x, (Value.slice A5 n5 c5).ownBlock = some x → x ≠ g := fun x hx => by have h1 := (ow5.rng x hx).1; have h2 : wr.heap.size ≤ x := h1; omega
              have G7 := grown_set (g := g) (grown_more G6 (b5'.mono G6.size)) 0 (.slice A5 n5 c5)
              clear ow5 b5 b5' z0 z1 z2 z3 z4 z5 o0 o1 o2 o3 o4 o5 O6 O6D HA G6 e6
              go_wp2_with fail
              go_roundw
            all_goals first
              | exact ⟨j + 1, p' + 64, n5, c5, A5, by go_num, by have := HJ.out; show _ = _; omega, by omega, O7, HA7, e7, G7⟩
              | (simp [intOf]; omega)
          · have hlt' : ¬ (p' : Int) + 64 ≤ (T : Int) := by omega
            have hjd : all.length / 64 = j := by have h1 := HJ.out; have h2 := HT.out; omega
            have HJD := Lib.hid hjd
            clear hjd
            have hD := hra.rd.cut p' (T - p') (by omega)
            rw [bv_cut] at hD
            have hDa := hD.alloc (.cells #[] 5)
            have HE := Lib.hid (own_empty wr 5)
            have qa : 0 + (T - p') ≤ 70368744177664 := by omega
            have qb : wr.heap.size ≤ (wr.alloc (.cells #[] 5)).heap.size := by simp
            have t0 : (0 : Int) ≤ (p' : Int) := by omega
            have t1 : (p' : Int) ≤ (T : Int) := by omega
            have t2 : (T : Int) ≤ (c3 : Int) := by omega
            have w64 : IntKind.i64.wrap ((p' : Int) + 64) = (p' : Int) + 64 := by rw [IntKind.wrap_i64]; omega
            clear hra hD
            have OA := O6.below ((Below.refl wr.heap.size wr).alloc (Nat.le_refl _) (.cells #[] 5)) gl
            have ga : g < (wr.alloc (.cells #[] 5)).heap.size := by simp; omega
            have na : (Value.slice (some ⟨wr.heap.size, 0, none⟩) 0 0).ownBlock ≠ some g := fun e => by simp [Value.ownBlock] at e; omega
            have w3s : W3.heap.size ≤ wr.heap.size := G6.size
            go_wp2_with (at_builtin; refine append_bytes_x _ rfl _ _ rfl wr.heap.size _ _ _ [] rfl HE _ _ _ ((all.drop p').take (T - p')) rfl hDa qa qb ?_; intro A7 c7 W7 HO7 G7 N7; rw [Nat.zero_add, List.nil_append] at HO7; have O7 := OA.grown G7 na ga; obtain ⟨z0, z1, z2, z3, z4, z5⟩ := O7.cells3; have b7 : Below wr.heap.size wr W7 := ((Below.refl wr.heap.size wr).alloc (Nat.le_refl _) (.cells #[] 5)).trans (grown_below G7 (fun x hx => by simp [Value.ownBlock] at hx; omega) (by simp)); have Y7 := (Y5.grown G6 (fun e => gy (Option.some.inj e).symm) Y5.lt).below b7 (Nat.lt_of_lt_of_le Y5.lt w3s); obtain ⟨y0, y1, y2, y3, y4, y5⟩ := Y7.cells3)
            all_goals
              have HC : (all.drop p').take (T - p') = all.drop (64 * (all.length / 64)) := by
                rw [HJD.out, ← HJ.out]
                exact List.take_of_length_le (by rw [List.length_drop, HT.out]; exact Nat.le_refl _)
              have ra := Ro.set_ne (Ow.more (Ow.below HA.out b7 (Nat.le_refl _)) b7.size : Ro W0 W7 3 A' n' c' (iv (allL l all j))) (a := ⟨g, 1, none⟩) e6 (.slice A7 (T - p') c7)
              have rb := (Ow.of_own HO7.out).set_ (a := ⟨g, 1, none⟩) gl (.slice A7 (T - p') c7)
              rw [HC] at rb
              have zz := b7.size
              have w0r := Nat.le_trans BW5.size w3s
              have hy : ∀ o, (⟨w.heap.size + 1, o, none⟩ : Addr).block < wr.heap.size := fun o => by show w.heap.size + 1 < _; omega
              rw [HR.out.1, HR.out.2.1, HR.out.2.2, HJD.out] at *
              refine bodyPost_ret (v := .agg #[.slice A' n' c', .slice A7 (T - p') c7, .int .i64 (k + p)]) (by simp [results, Try.results11, go_sem, y0, y1, y2]) rfl ⟨A', n', c', A7, T - p', c7, rfl, ⟨?_, ?_⟩, ?_⟩
              · exact (((Ow.set_ ra (by exact zy) _).set_ (by exact zy) _).set_ (by exact zy) _).less (by omega) |>.more (by simp)
              · exact (((rb.set_ (hy _) _).set_ (hy _) _).set_ (hy _) _).less (by omega) |>.more (by simp)
              · have bb : Below w.heap.size w W7 := bnext B0 ((BW5.trans (grown_below G6 (fun x hx => by injection hx with hx; omega) BW5.size)).trans (b7.mono w0r))
                repeat (first | exact bb | refine Below.setCell ?_ (by first | exact gw | (show w.heap.size ≤ w.heap.size + 1; omega)) _)
    · have hno : ¬ addOk l h k b := fun x => hok x.1
      have HR := Lib.hid (show addW l h k b = l ∧ addH l h k b = h ∧ addN l h k b = k from ⟨by rw [addW, if_neg hno], by rw [addH, if_neg hno], by rw [addN, if_neg hno]⟩)
      have hok' : hOk l h k = false := by simpa using hok
      have CO2 := Lib.hid (CO.out.mono fun e w' h' => (⟨by rw [h'.1, hok'], h'.2⟩ : e = .returned (.bool false) ∧ Below wc.heap.size wc w'))
      clear hno CO hok hok' hn hm hp
      obtain ⟨x0, x1, x2⟩ := id XC
      go_wp2_with fail
      clear x0 x1 x2
      refine CO2.out.mono ?_
      rintro e W1 ⟨rfl, b1⟩
      have s1 := b1.size
      have Y3 := YC.below b1 (by omega)
      have O3 := X1.below b1 hg1
      have ri3 := Ow.below ri b1 (Nat.le_refl _)
      have rb3 := Ow.below rb b1 (Nat.le_refl _)
      obtain ⟨o0, o1, o2, o3, o4, o5⟩ := O3.cells3
      obtain ⟨y0, y1, y2, y3, y4, y5⟩ := Y3.cells3
      go_wp2_with fail
      rw [HR.out.1, HR.out.2.1, HR.out.2.2]
      refine bodyPost_ret (v := .agg #[.slice A1 n c1, .slice B1 m d1, .int .i64 k]) (by simp [results, Try.results11, go_sem, y0, y1, y2]) rfl ⟨A1, n, c1, B1, m, d1, rfl, ⟨?_, ?_⟩, ?_⟩
      · exact (((ri3.set_ (by exact zy) _).set_ (by exact zy) _).set_ (by exact zy) _).less (by omega) |>.more (by simp; omega)
      · exact (((rb3.set_ (by exact zy) _).set_ (by exact zy) _).set_ (by exact zy) _).less (by omega) |>.more (by simp; omega)
      · repeat (first | exact bnext BW0 b1 | refine Below.setCell ?_ (by simp <;> omega) _)


theorem addH_le (l : List Int) (h : List UInt8) (k : Int) (b : List UInt8) (hh : h.length ≤ 1048576) : (addH l h k b).length ≤ 1048576 := by
  unfold addH
  split
  · rw [List.length_drop]; omega
  · exact hh

end Go.Proofs.Ytnngiampfdjlfaa
