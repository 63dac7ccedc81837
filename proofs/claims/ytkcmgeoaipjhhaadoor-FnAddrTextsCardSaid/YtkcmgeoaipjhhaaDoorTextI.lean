/- Contract of the program's AddrText: for all integers, where the table of the numerals holds what it is listed to hold. -/
import Derived.Test.YtkcmgeoaipjhhaaDoorTextS
import Derived.Test.YtkcmgeoaipjhhaaDoorLibC
import Derived.Deep.RegionHeld3
namespace Go.Proofs.YtkcmgeoaipjhhaaDoor
open Go.ChangeShapes Go.WideShapes Go.ChangeAt Go.RowKit
set_option linter.unusedVariables false

theorem info_str : (Tryd.prog.info? 9).map (fun i => (i.zero, i.size, i.bytes)) = some (some (.string ByteArray.empty), 1, 16) := by kernel_rfl
theorem sv_one (l : List ByteArray) : ∀ u ∈ sv l, u.oneCell' = true := by
  intro u hu; obtain ⟨_, _, rfl⟩ := List.mem_map.1 hu; rfl
theorem sv_app (l m : List ByteArray) : sv (l ++ m) = sv l ++ sv m := by simp [sv]
theorem append_strs (w : World) {ops : Array Oper} {rest : List Oper} {o : Oper} {a : Act} {Q : Exit → Act → World → Prop} (hgd : o.guard = none) (s x : Operand)
    (ho : o.op = .call { callee := .builtin .append, args := #[s, x], argTypes := #[49, 49] }) (base : Nat)
    (A0 : Option Addr) (n c0 : Nat) (xs : List ByteArray) (hs : a.eval s = .slice A0 n c0) (hown : Hid (w.ownsRow base 9 1 (.slice A0 n c0) n (sv xs)))
    (A : Option Addr) (m c : Nat) (news : List ByteArray) (hx : a.eval x = .slice A m c) (hr : Rd w A m c (sv news))
    (hnm : n + m ≤ 1000) (hbase : base ≤ w.heap.size)
    (h : ∀ A' c' w', Hid (w'.ownsRow base 9 1 (.slice A' (n + m) c') (n + m) (sv (xs ++ news))) → Below base w w' → wpList Tryd.prog ops Q rest (a.put o.dst (.slice A' (n + m) c')) w') : wpList Tryd.prog ops Q (o :: rest) a w := by
  obtain ⟨i0, hi0, hz0, hz1, hz2⟩ := info_parts info_str
  exact wpList_append_rd w hgd s x 49 ho base 9 i0 (.string ByteArray.empty) 16 Tryd.underlying49 hi0 hz0 hz1 hz2 rfl A0 n c0 _ hs hown.out A m c _ hx hr (sv_one _) (by unfold maxLen; omega) (by omega) hbase fun A' c' w' h2 h3 => h A' c' w' (by rw [sv_app]; exact h2) h3
theorem own_some {w : World} {t : TypeId} {A : Option Addr} {n c lo : Nat} {xs : List Value} (h : w.ownsRow lo t 1 (.slice A n c) n xs) (hn : 0 < n) : ∃ g, A = some ⟨g, 0, none⟩ := by
  rcases h.2 with ⟨hv, h0⟩ | ⟨g, cap, cur, hv, _⟩
  · omega
  · injection hv with h1 h2 h3; exact ⟨g, h1⟩
theorem text_app2 (x y : List UInt8) : (⟨x.toArray⟩ : ByteArray) ++ ⟨#[58]⟩ ++ ⟨y.toArray⟩ = ⟨(x ++ 58 :: y).toArray⟩ := by
  have e2 : (⟨#[58]⟩ : ByteArray) = ⟨([58] : List UInt8).toArray⟩ := rfl
  rw [e2, bapp, bapp]
  congr 2
  simp
theorem join_four (x0 x1 x2 x3 : ByteArray) : Lib.join ([x0, x1, x2, x3].map (·.data.toList)) [46] = x0.data.toList ++ 46 :: (x1.data.toList ++ 46 :: (x2.data.toList ++ 46 :: x3.data.toList)) := by
  simp [Lib.join_cons, Lib.joinTail]

set_option maxRecDepth 100000 in
set_option maxHeartbeats 2000000 in
theorem I_AddrText (a b : Int) (w : World) (E : Env w) :
    Calls Tryd.prog 13 #[.agg #[.int .i64 a, .int .i64 b]] w fun e w' => e = .returned (.string ⟨(addrT a b).toArray⟩) ∧ Below w.heap.size w w' := by
  have B0 := balloc (Below.refl _ w) (.cells #[.int .i64 a, .int .i64 b] 23)
  have C := Lib.hid (fun W => I_AddrOk a b W)
  cases hok : okAd a b with
  | false =>
    have HE := Lib.hid (show addrT a b = [] by rw [addrT, if_neg (by simp [hok])])
    have C1 := Lib.hid fun W => (C.out W).mono fun e w' h => (⟨by rw [h.1, hok], h.2⟩ : e = .returned (.bool false) ∧ Below W.heap.size W w')
    clear hok C
    go_enter Tryd.func13, Tryd.ntmps13
    go_wp2_with fail
    refine (C1.out _).mono ?_
    rintro e W1 ⟨rfl, b1⟩
    have B1 := bnext B0 b1
    go_wp2_with fail
    go_ret
    exact ⟨by rw [HE.out]; rfl, B1⟩
  | true =>
    have hb := (okAd_iff a b).1 hok
    obtain ⟨A, rfl⟩ := Int.eq_ofNat_of_zero_le hb.1.1
    obtain ⟨B, rfl⟩ := Int.eq_ofNat_of_zero_le hb.2.1
    have hA : A ≤ 4294967295 := by omega
    have hB : B ≤ 65535 := by omega
    have HE := Lib.hid (show addrT (A : Int) (B : Int) = hostT A ++ 58 :: dgs B by rw [addrT, if_pos hok]; simp)
    have C1 := Lib.hid fun W => (C.out W).mono fun e w' h => (⟨by rw [h.1, hok], h.2⟩ : e = .returned (.bool true) ∧ Below W.heap.size W w')
    clear hok C hb
    have D0 := Lib.hid fun W h => L_Itoa (A / 16777216) ((A : Int) / 16777216 % 256) W h (by omega) (by omega)
    have D1 := Lib.hid fun W h => L_Itoa (A / 65536 % 256) ((A : Int) / 65536 % 256) W h (by omega) (by omega)
    have D2 := Lib.hid fun W h => L_Itoa (A / 256 % 256) ((A : Int) / 256 % 256) W h (by omega) (by omega)
    have D3 := Lib.hid fun W h => L_Itoa (A % 256) ((A : Int) % 256) W h (by omega) (by omega)
    have D4 := Lib.hid fun W h => L_Itoa B (B : Int) W h (by omega) (by omega)
    rw [hostT] at HE
    have L0 := dgs_len (A / 16777216) (by omega)
    have L1 := dgs_len (A / 65536 % 256) (by omega)
    have L2 := dgs_len (A / 256 % 256) (by omega)
    have L3 := dgs_len (A % 256) (by omega)
    have L4 := dgs_len B (by omega)
    generalize dgs (A / 16777216) = x0 at *
    generalize dgs (A / 65536 % 256) = x1 at *
    generalize dgs (A / 256 % 256) = x2 at *
    generalize dgs (A % 256) = x3 at *
    generalize dgs B = x4 at *
    obtain ⟨W0, hW0⟩ : ∃ V, V = w.alloc (.cells #[.int .i64 (A : Int), .int .i64 (B : Int)] 23) := ⟨_, rfl⟩
    rw [← hW0] at B0
    have s0 : w.heap.size < W0.heap.size := by rw [hW0]; simp
    have c0 : W0.cell? ⟨w.heap.size, 0, none⟩ = some (.int .i64 (A : Int)) := by rw [hW0]; simp [go_sem]
    have c1 : W0.cell? ⟨w.heap.size, 1, none⟩ = some (.int .i64 (B : Int)) := by rw [hW0]; simp [go_sem]
    have HW := Lib.hid hW0
    clear hW0
    go_enter Tryd.func13, Tryd.ntmps13
    go_wp2_with fail
    rw [← HW.out]
    refine (C1.out _).mono ?_
    rintro e W1 ⟨rfl, b1⟩
    have c10 := (b1.cell (p := ⟨w.heap.size, 0, none⟩) s0).trans c0
    have c11 := (b1.cell (p := ⟨w.heap.size, 1, none⟩) s0).trans c1
    have s1 := Nat.lt_of_lt_of_le s0 b1.size
    have E1 := env_below E (bnext B0 b1)
    have B1 := bnext B0 b1
    clear c0 c1 HW C1
    go_wp2_with fail
    go_loopw [3, 4] (fun v i wr => ∃ (k c' : Nat) (A' : Option Addr) (z : Int), v = .slice A' k c' ∧ i = .int .i64 z ∧ Hid (z = 3 - (k : Int)) ∧ k ≤ 4 ∧
        Hid (wr.ownsRow W1.heap.size 9 1 (.slice A' k c') k (sv (([⟨x0.toArray⟩, ⟨x1.toArray⟩, ⟨x2.toArray⟩, ⟨x3.toArray⟩] : List ByteArray).take k))) ∧ Below W1.heap.size W1 wr)
      (fun _ i _ => (intOf i + 1).toNat)
    case atStart => exact ⟨0, 0, _, 3, rfl, rfl, rfl, by omega, own_empty W1 _, balloc (Below.refl _ _) _⟩
    case round =>
      obtain ⟨k, c', A', z, rfl, rfl, HZ, hk, HO, hb⟩ := hrel
      have d0 := (hb.cell (p := ⟨w.heap.size, 0, none⟩) s1).trans c10
      have d1 := (hb.cell (p := ⟨w.heap.size, 1, none⟩) s1).trans c11
      have Er := env_below E1 hb
      rcases (by omega : k = 0 ∨ k = 1 ∨ k = 2 ∨ k = 3 ∨ k = 4) with rfl | rfl | rfl | rfl | rfl
      · obtain rfl : z = 3 := by have := HZ.out; omega
        go_wp2_with fail
        refine (D0.out _ Er).mono ?_
        rintro e W2 ⟨rfl, b2⟩
        have HI := Lib.hid (((Ow.of_own HO.out).below b2 (Nat.le_refl _)).own.alloc (.cells #[.string ⟨x0.toArray⟩] 9))
        have hr1 : Rd (W2.alloc (.cells #[.string ⟨x0.toArray⟩] 9)) (some ⟨W2.heap.size, 0, none⟩) 1 1 (sv [⟨x0.toArray⟩]) := rd_one W2 9 _
        have b3 := hb.trans (b2.mono hb.size)
        have b4 := b3.alloc b3.size (.cells #[.string ⟨x0.toArray⟩] 9)
        have q5 : 0 + 1 ≤ 1000 := by omega
        have q6 := b4.size
        clear d0 d1 HO hb b2
        go_wp2_with (at_builtin; refine append_strs _ rfl _ _ rfl W1.heap.size _ _ _ _ rfl HI _ _ _ [⟨x0.toArray⟩] rfl hr1 q5 q6 ?_; intro A3 c3 W3 HO3 hb3)
        have ho3 := HO3.out
        have b5 := b4.trans hb3
        clear HO3 hb3 HI hr1
        go_roundw
        case rel => exact ⟨1, c3, A3, 2, rfl, rfl, by show _ = _; omega, by omega, ho3, b5⟩
        case measure => simp [intOf]
      · obtain rfl : z = 2 := by have := HZ.out; omega
        go_wp2_with fail
        refine (D1.out _ Er).mono ?_
        rintro e W2 ⟨rfl, b2⟩
        have HI := Lib.hid (((Ow.of_own HO.out).below b2 (Nat.le_refl _)).own.alloc (.cells #[.string ⟨x1.toArray⟩] 9))
        have hr1 : Rd (W2.alloc (.cells #[.string ⟨x1.toArray⟩] 9)) (some ⟨W2.heap.size, 0, none⟩) 1 1 (sv [⟨x1.toArray⟩]) := rd_one W2 9 _
        have b3 := hb.trans (b2.mono hb.size)
        have b4 := b3.alloc b3.size (.cells #[.string ⟨x1.toArray⟩] 9)
        have q5 : 1 + 1 ≤ 1000 := by omega
        have q6 := b4.size
        clear d0 d1 HO hb b2
        go_wp2_with (at_builtin; refine append_strs _ rfl _ _ rfl W1.heap.size _ _ _ _ rfl HI _ _ _ [⟨x1.toArray⟩] rfl hr1 q5 q6 ?_; intro A3 c3 W3 HO3 hb3)
        have ho3 := HO3.out
        have b5 := b4.trans hb3
        clear HO3 hb3 HI hr1
        go_roundw
        case rel => exact ⟨2, c3, A3, 1, rfl, rfl, by show _ = _; omega, by omega, ho3, b5⟩
        case measure => simp [intOf]
      · obtain rfl : z = 1 := by have := HZ.out; omega
        go_wp2_with fail
        refine (D2.out _ Er).mono ?_
        rintro e W2 ⟨rfl, b2⟩
        have HI := Lib.hid (((Ow.of_own HO.out).below b2 (Nat.le_refl _)).own.alloc (.cells #[.string ⟨x2.toArray⟩] 9))
        have hr1 : Rd (W2.alloc (.cells #[.string ⟨x2.toArray⟩] 9)) (some ⟨W2.heap.size, 0, none⟩) 1 1 (sv [⟨x2.toArray⟩]) := rd_one W2 9 _
        have b3 := hb.trans (b2.mono hb.size)
        have b4 := b3.alloc b3.size (.cells #[.string ⟨x2.toArray⟩] 9)
        have q5 : 2 + 1 ≤ 1000 := by omega
        have q6 := b4.size
        clear d0 d1 HO hb b2
        go_wp2_with (at_builtin; refine append_strs _ rfl _ _ rfl W1.heap.size _ _ _ _ rfl HI _ _ _ [⟨x2.toArray⟩] rfl hr1 q5 q6 ?_; intro A3 c3 W3 HO3 hb3)
        have ho3 := HO3.out
        have b5 := b4.trans hb3
        clear HO3 hb3 HI hr1
        go_roundw
        case rel => exact ⟨3, c3, A3, 0, rfl, rfl, by show _ = _; omega, by omega, ho3, b5⟩
        case measure => simp [intOf]
      · obtain rfl : z = 0 := by have := HZ.out; omega
        go_wp2_with fail
        refine (D3.out _ Er).mono ?_
        rintro e W2 ⟨rfl, b2⟩
        have HI := Lib.hid (((Ow.of_own HO.out).below b2 (Nat.le_refl _)).own.alloc (.cells #[.string ⟨x3.toArray⟩] 9))
        have hr1 : Rd (W2.alloc (.cells #[.string ⟨x3.toArray⟩] 9)) (some ⟨W2.heap.size, 0, none⟩) 1 1 (sv [⟨x3.toArray⟩]) := rd_one W2 9 _
        have b3 := hb.trans (b2.mono hb.size)
        have b4 := b3.alloc b3.size (.cells #[.string ⟨x3.toArray⟩] 9)
        have q5 : 3 + 1 ≤ 1000 := by omega
        have q6 := b4.size
        clear d0 d1 HO hb b2
        go_wp2_with (at_builtin; refine append_strs _ rfl _ _ rfl W1.heap.size _ _ _ _ rfl HI _ _ _ [⟨x3.toArray⟩] rfl hr1 q5 q6 ?_; intro A3 c3 W3 HO3 hb3)
        have ho3 := HO3.out
        have b5 := b4.trans hb3
        clear HO3 hb3 HI hr1
        go_roundw
        case rel => exact ⟨4, c3, A3, -1, rfl, rfl, by show _ = _; omega, by omega, ho3, b5⟩
        case measure => simp [intOf]
      · obtain rfl : z = -1 := by have := HZ.out; omega
        obtain ⟨g, rfl⟩ := own_some HO.out (by omega)
        obtain ⟨bk, off, hbo, hlt, hcl⟩ := (own_rd HO.out).at_ (by omega)
        obtain ⟨rfl, rfl⟩ : g = bk ∧ 0 = off := by injection hbo with h1; injection h1 with h2 h3; exact ⟨h2, h3⟩
        have hc4 := (own_rd HO.out).le
        have hlen : (x0 ++ 46 :: (x1 ++ 46 :: (x2 ++ 46 :: x3))).length ≤ 1000 := by simp; omega
        have CJ := Lib.hid (show ∀ W, (∀ p : Addr, p.block < wr.heap.size → W.cell? p = wr.cell? p) → wr.heap.size ≤ W.heap.size → Calls Tryd.prog 35 #[.slice (some ⟨g, 0, none⟩) 4 c', .string ⟨#[46]⟩] W fun e w' => e = .returned (.string ⟨(x0 ++ 46 :: (x1 ++ 46 :: (x2 ++ 46 :: x3))).toArray⟩) ∧ Below W.heap.size W w' from fun W hW hs => by
          have h := L_Join g 0 c' [⟨x0.toArray⟩, ⟨x1.toArray⟩, ⟨x2.toArray⟩, ⟨x3.toArray⟩] W (fun j x hx => (hW _ hlt).trans (hcl j _ (by
            have : (sv ([⟨x0.toArray⟩, ⟨x1.toArray⟩, ⟨x2.toArray⟩, ⟨x3.toArray⟩] : List ByteArray))[j]? = some (.string x) := by simp only [sv, List.getElem?_map, hx, Option.map_some]
            exact this))) (Nat.lt_of_lt_of_le hlt hs) (by simp) hc4 (by rw [join_four]; exact hlen)
          rw [join_four] at h
          exact h)
        have HL := Lib.hid hlen
        have t0 : ¬ 9223372036854775807 < (x0 ++ 46 :: (x1 ++ 46 :: (x2 ++ 46 :: x3))).length + 1 := by omega
        have t1 : ¬ 9223372036854775807 < (x0 ++ 46 :: (x1 ++ 46 :: (x2 ++ 46 :: x3))).length + 1 + x4.length := by omega
        have Bf := bnext B1 hb
        have sr := Nat.lt_of_lt_of_le s1 hb.size
        generalize hX : x0 ++ 46 :: (x1 ++ 46 :: (x2 ++ 46 :: x3)) = X at *
        have HX := Lib.hid hX
        have CJD := Lib.hid (CJ.out wr.drew (fun _ _ => rfl) (Nat.le_refl _))
        clear hX hlen hcl HO D0 D1 D2 D3 L0 L1 L2 L3 d0 hb HL
        go_wp2_with fail
        go_region_held3 (fun w' => w'.cell? ⟨w.heap.size, 1, none⟩ = some (.int .i64 (B : Int)))
          (first | exact d1 | exact f2 | exact f3)
          (first
            | (go_at_call 35; (with_reducible refine CJD.out.mono ?_); rintro e W2 ⟨rfl, b2⟩; have f2 := (b2.cell (p := ⟨w.heap.size, 1, none⟩) sr).trans d1; have E2 := env_below Er ((bdrew (Below.refl _ _)).trans b2))
            | (go_at_call 34; (with_reducible refine (D4.out _ E2).mono ?_); rintro e W3 ⟨rfl, b3⟩; have f3 := (b3.cell (p := ⟨w.heap.size, 1, none⟩) (Nat.lt_of_lt_of_le sr b2.size)).trans f2))
        go_wp2_with fail
        go_ret
        refine ⟨?_, bnext (bnext (bdrew Bf) b2) b3⟩
        rw [HE.out]
        exact congrArg (fun s => Ending.returned (.string s)) (text_app2 X x4)

end Go.Proofs.YtkcmgeoaipjhhaaDoor
