/- Contract of the reference's ParseAddr: for every string of at most 1048576 bytes. -/
import Derived.Test.YtkcmgeoaipjhhaaDoorTextS
import Derived.Deep.RegionHeld3
namespace Go.Proofs.YtkcmgeoaipjhhaaDoor
open Go.ChangeShapes Go.WideShapes Go.ChangeAt Go.RowKit
set_option linter.unusedVariables false

theorem fold_snoc {l : List UInt8} {k : Nat} {c : UInt8} {x : List Int × Int} (hk : k < l.length) (hc : l[k] = c) (h : foldS ([], -1) (l.take k) = some x) : foldS ([], -1) (l.take (k + 1)) = stepS x c := by
  rw [List.take_succ_eq_append_getElem hk, foldS_app, h, hc]
  simp only [foldS]
  cases stepS x c <;> rfl
theorem fold_fail {l : List UInt8} {k : Nat} {c : UInt8} {x : List Int × Int} (hk : k < l.length) (hc : l[k] = c) (h : foldS ([], -1) (l.take k) = some x) (hs : stepS x c = none) : foldS ([], -1) l = none := by
  have h1 := fold_snoc hk hc h
  rw [hs] at h1
  have h2 : foldS ([], -1) (l.take (k + 1) ++ l.drop (k + 1)) = none := by rw [foldS_app, h1]
  rwa [List.take_append_drop] at h2
theorem step_sep {l : List Int} {z : Int} {c : UInt8} (hc : c = 46 ∨ c = 58) (hz : 0 ≤ z) (hl : l.length ≤ 4) : stepS (l, z) c = some (l ++ [z], -1) := by
  unfold stepS; rw [if_pos hc, if_neg (by show ¬ (z < 0 ∨ 4 < l.length); omega)]
theorem step_sep_no {l : List Int} {z : Int} {c : UInt8} (hc : c = 46 ∨ c = 58) (h : z < 0 ∨ 4 < l.length) : stepS (l, z) c = none := by
  unfold stepS; rw [if_pos hc, if_pos h]
theorem step_dig_no {l : List Int} {z : Int} {c : UInt8} (hc : ¬ (c = 46 ∨ c = 58)) (h : ¬ (48 ≤ c.toNat ∧ c.toNat ≤ 57) ∨ 6553 < z) : stepS (l, z) c = none := by
  unfold stepS; rw [if_neg hc, if_pos h]
theorem step_dig {l : List Int} {z : Int} {c : UInt8} (hc : ¬ (c = 46 ∨ c = 58)) (h : (48 ≤ c.toNat ∧ c.toNat ≤ 57) ∧ z ≤ 6553) : stepS (l, z) c = some (l, 10 * (if z < 0 then 0 else z) + ((c.toNat : Int) - 48)) := by
  unfold stepS; rw [if_neg hc, if_neg (by show ¬ (¬ (48 ≤ c.toNat ∧ c.toNat ≤ 57) ∨ 6553 < z); omega)]

/-- A box of two cells that can be written. -/
structure Bw (w : World) (g : Nat) (u v : Value) : Prop where
  c0 : w.cell? ⟨g, 0, none⟩ = some u
  c1 : w.cell? ⟨g, 1, none⟩ = some v
  f0 : w.frozen? ⟨g, 0, none⟩ = false
  f1 : w.frozen? ⟨g, 1, none⟩ = false
theorem Bw.new (w : World) (t : TypeId) (u v : Value) : Bw (w.alloc (.cells #[u, v] t)) w.heap.size u v := ⟨by simp [go_sem], by simp [go_sem], by simp [go_sem], by simp [go_sem]⟩
theorem Bw.below {w w' : World} {g X : Nat} {u v : Value} (h : Bw w g u v) (hb : Below X w w') (hX : g < X) : Bw w' g u v :=
  ⟨(hb.cell (p := ⟨g, 0, none⟩) hX).trans h.c0, (hb.cell (p := ⟨g, 1, none⟩) hX).trans h.c1, (hb.frozen (p := ⟨g, 0, none⟩) hX).trans h.f0, (hb.frozen (p := ⟨g, 1, none⟩) hX).trans h.f1⟩
/-- What a call of the reference's ParseAddr answers. -/
def prsS (r : Int × Int × Bool) : Value := .tuple #[.agg #[.int .i64 r.1, .int .i64 r.2.1], .bool r.2.2]
theorem or_add (k : Nat) (x a b : Int) (hx : x = a * 2 ^ k) (ha : 0 ≤ a) (hb : 0 ≤ b ∧ b < 2 ^ k) (hm : x < 4611686018427387904 ∧ b < 4611686018427387904) : bits .or .i64 x b = x + b := by
  obtain ⟨A, rfl⟩ := Int.eq_ofNat_of_zero_le ha
  obtain ⟨B, rfl⟩ := Int.eq_ofNat_of_zero_le hb.1
  have hB : B < 2 ^ k := by have := hb.2; exact_mod_cast this
  have hX : x = ((2 ^ k * A : Nat) : Int) := by rw [hx, Nat.mul_comm]; push_cast; rfl
  subst hX
  rw [or64 _ _ (by omega) (by omega) (by omega) (by omega), Int.toNat_natCast, Int.toNat_natCast, ← Nat.two_pow_add_eq_or_of_lt hB A]
  push_cast; rfl
theorem own_sm {w : World} {t : TypeId} {A : Option Addr} {n c lo : Nat} {xs : List Value} (h : w.ownsRow lo t 1 (.slice A n c) n xs) (hn : 0 < n) : ∃ g, A = some ⟨g, 0, none⟩ := by
  rcases h.2 with ⟨hv, h0⟩ | ⟨g, cap, cur, hv, _⟩
  · omega
  · injection hv with h1 h2 h3; exact ⟨g, h1⟩
theorem specR_len {s : List UInt8} {l : List Int} {z : Int} (hf : foldS ([], -1) (s ++ [58]) = some (l, z)) (h : l.length ≠ 5) : specR s = (0, 0, false) := by
  unfold specR
  rw [hf]
  split
  · rename_i he
    injection he with he; injection he with h1 h2
    exact absurd (by rw [h1]; rfl) h
  · rfl
theorem specR_five {s : List UInt8} {p q r t u z : Int} (hf : foldS ([], -1) (s ++ [58]) = some ([p, q, r, t, u], z)) : specR s =
    if p ≤ 255 ∧ q ≤ 255 ∧ r ≤ 255 ∧ t ≤ 255 ∧ addrT (p * 16777216 + q * 65536 + r * 256 + t) u = s then (p * 16777216 + q * 65536 + r * 256 + t, u, true) else (0, 0, false) := by
  unfold specR
  rw [hf]
theorem specR_none {s : List UInt8} (h : foldS ([], -1) (s ++ [58]) = none) : specR s = (0, 0, false) := by
  simp [specR, h]

set_option maxRecDepth 100000 in
set_option maxHeartbeats 4000000 in
theorem S_ParseAddr (s : ByteArray) (w : World) (hs : s.size ≤ 1048576) :
    Calls Tryd.prog 7 #[.string s] w fun e w' => e = .returned (prsS (specR s.data.toList)) ∧ Below w.heap.size w w' := by
  obtain ⟨W0, hW0⟩ : ∃ V, V = w.alloc (.cells #[.int .i64 0, .int .i64 0] 23) := ⟨_, rfl⟩
  have B0 : Below w.heap.size w W0 := by rw [hW0]; exact balloc (Below.refl _ _) _
  have R0 : Bw W0 w.heap.size (.int .i64 0) (.int .i64 0) := by rw [hW0]; exact Bw.new _ _ _ _
  have z0 : w.heap.size < W0.heap.size := by rw [hW0]; simp
  have Z0 := Lib.hid (show W0.heap.size = w.heap.size + 1 by rw [hW0]; simp)
  have HW := Lib.hid hW0
  clear hW0
  have HT := Lib.hid (show (s.data.toList ++ [58]).length = s.size + 1 by rw [List.length_append, ← Lib.size_eq]; rfl)
  have HTk := Lib.hid (show ∀ (k : Nat) (h : k < s.size), (∃ h2 : k < (s.data.toList ++ [58]).length, (s.data.toList ++ [58])[k] = s[k]) from fun k h => ⟨by have := HT.out; omega, by rw [List.getElem_append_left (by rw [← Lib.size_eq]; exact h)]; rfl⟩)
  have HTe := Lib.hid (show ∃ h2 : s.size < (s.data.toList ++ [58]).length, (s.data.toList ++ [58])[s.size] = 58 from ⟨by have := HT.out; omega, by
    rw [List.getElem_append_right (by rw [← Lib.size_eq]; exact Nat.le_refl _)]; simp⟩)
  have J1 := Lib.hid (fun (hf : foldS ([], -1) (s.data.toList ++ [58]) = none) => specR_none hf)
  have J3 := Lib.hid (fun (l : List Int) (z : Int) (hf : foldS ([], -1) (s.data.toList ++ [58]) = some (l, z)) (h : l.length ≠ 5) => specR_len hf h)
  have J4 := Lib.hid (fun (p q r t u z : Int) (hf : foldS ([], -1) (s.data.toList ++ [58]) = some ([p, q, r, t, u], z)) => specR_five hf)
  generalize s.data.toList ++ [58] = T at *
  go_enter Tryd.func7, Tryd.ntmps7
  go_wp2_with fail
  rw [← HW.out]
  go_loopw [4, 5, 6] (fun v nn i wr => ∃ (k : Nat) (l : List Int) (z : Int) (c' : Nat) (A' : Option Addr), v = .slice A' l.length c' ∧ nn = .int .i64 z ∧ i = .int .i64 (k : Int) ∧ k ≤ s.size + 1 ∧
      -1 ≤ z ∧ z ≤ 65539 ∧ l.length ≤ 5 ∧ Hid (∀ x ∈ l, 0 ≤ x ∧ x ≤ 65539) ∧ Hid (foldS ([], -1) (T.take k) = some (l, z)) ∧ Hid (wr.ownsRow W0.heap.size 3 1 (.slice A' l.length c') l.length (iv l)) ∧ Below W0.heap.size W0 wr)
    (fun _ _ i _ => s.size + 1 - (intOf i).toNat)
  case atStart => exact ⟨0, [], -1, 0, _, rfl, rfl, rfl, by omega, by omega, by omega, by simp, by intro x hx; simp at hx, rfl, by rw [← Z0.out]; exact own_empty W0 _, balloc (Below.refl _ _) _⟩
  case round =>
    obtain ⟨k, l, z, c', A', rfl, rfl, rfl, hk, hz0, hz1, hl5, HA, HF, HO, hb⟩ := hrel
    have Rr := R0.below hb z0
    have Br := B0.trans (hb.mono (Nat.le_of_lt z0))
    obtain ⟨q0, q1, q2, q3⟩ := id Rr
    by_cases hke : k = s.size
    · subst hke
      by_cases hz : 0 ≤ z
      · by_cases h4 : l.length ≤ 4
        · have HF2 := Lib.hid ((fold_snoc HTe.out.1 HTe.out.2 HF.out).trans (step_sep (.inr rfl) hz h4))
          have HA2 := Lib.hid (show ∀ x ∈ l ++ [z], 0 ≤ x ∧ x ≤ 65539 from fun x hx => by
            rcases List.mem_append.1 hx with hx | hx
            · exact HA.out x hx
            · simp at hx; subst hx; exact ⟨hz, hz1⟩)
          have g0 : ¬ z < 0 := by omega
          have g4 : ¬ (4 : Int) < (l.length : Int) := by omega
          have HI := Lib.hid (((Ow.of_own HO.out).below (Below.refl _ _) (Nat.le_refl _)).own.alloc (.cells #[.int .i64 z] 3))
          have hr1 : Rd (wr.alloc (.cells #[.int .i64 z] 3)) (some ⟨wr.heap.size, 0, none⟩) 1 1 (iv [z]) := rd_one wr 3 _
          have b3 := hb.alloc hb.size (.cells #[.int .i64 z] 3)
          have q5 : l.length + 1 ≤ 70368744177664 / 8 := by omega
          have q6 := b3.size
          clear HO q0 q1 q2 q3
          go_wp2_with (at_builtin; refine append_ints _ rfl _ _ rfl W0.heap.size _ _ _ _ rfl HI _ _ _ [z] rfl hr1 q5 q6 ?_; intro A3 c3 W3 HO3 hb3)
          have e3 : (l ++ [z]).length = l.length + 1 := by simp
          have HO4 : Hid (W3.ownsRow W0.heap.size 3 1 (.slice A3 (l ++ [z]).length c3) (l ++ [z]).length (iv (l ++ [z]))) := by rw [e3]; exact HO3
          first
            | (refine ⟨⟨s.size + 1, l ++ [z], -1, c3, A3, by rw [e3], rfl, by go_num, by omega, by omega, by omega, by rw [e3]; omega, HA2, HF2, HO4, b3.trans hb3⟩, ?_⟩; simp [intOf]; omega)
            | (refine ⟨⟨s.size + 1, l ++ [z], -1, c3, A3, by rw [e3], rfl, by go_num, by omega, by omega, by omega, by rw [e3]; omega, HA2, HF2, HO4, b3.trans hb3⟩, ?_⟩; simp [intOf])
        · have HZ := Lib.hid (J1.out (fold_fail HTe.out.1 HTe.out.2 HF.out (step_sep_no (.inr rfl) (.inr (by omega)))))
          have g0 : ¬ z < 0 := by omega
          have g4 : (4 : Int) < (l.length : Int) := by omega
          go_wp2_with fail
          refine bodyPost_ret (v := .tuple #[.agg #[.int .i64 0, .int .i64 0], .bool false]) (by simp [results, Tryd.results7, go_sem, q0, q1]) rfl ⟨by first | (rw [HZ.out]; done) | (rw [HZ.out]; rfl), ?_⟩
          repeat (first | exact Br | refine Below.setCell ?_ (by simp <;> omega) _)
      · have HZ := Lib.hid (J1.out (fold_fail HTe.out.1 HTe.out.2 HF.out (step_sep_no (.inr rfl) (.inl (by omega)))))
        have g0 : z < 0 := by omega
        go_wp2_with fail
        refine bodyPost_ret (v := .tuple #[.agg #[.int .i64 0, .int .i64 0], .bool false]) (by simp [results, Tryd.results7, go_sem, q0, q1]) rfl ⟨by first | (rw [HZ.out]; done) | (rw [HZ.out]; rfl), ?_⟩
        repeat (first | exact Br | refine Below.setCell ?_ (by simp <;> omega) _)
    by_cases hlt : k < s.size
    rotate_left
    · have hkz : k = s.size + 1 := by omega
      subst hkz
      have hfT : foldS ([], -1) T = some (l, z) := by
        have h := HF.out
        rwa [List.take_of_length_le (by rw [HT.out]; exact Nat.le_refl _)] at h
      have HFT := Lib.hid hfT
      have gk : ¬ (((s.size + 1 : Nat) : Int)) ≤ (s.size : Int) := by omega
      have gk' : ¬ ((s.size : Int) + 1) ≤ (s.size : Int) := by omega
      clear hfT HF hke hlt hk
      by_cases h5 : l.length = 5
      rotate_left
      · have HZ := Lib.hid (J3.out l z HFT.out h5)
        have g5 : ((l.length : Int) == 5) = false := by rw [beq_eq_false_iff_ne]; omega
        clear h5
        go_wp2_with fail
        refine bodyPost_ret (v := .tuple #[.agg #[.int .i64 0, .int .i64 0], .bool false]) (by simp [results, Tryd.results7, go_sem, q0, q1]) rfl ⟨by first | (rw [HZ.out]; done) | (rw [HZ.out]; rfl), ?_⟩
        repeat (first | exact Br | refine Below.setCell ?_ (by simp <;> omega) _)
      obtain ⟨p, q, r, t, u, rfl⟩ : ∃ p q r t u, l = [p, q, r, t, u] := by
        match l, h5 with
        | [p, q, r, t, u], _ => exact ⟨p, q, r, t, u, rfl⟩
      obtain ⟨g, rfl⟩ := own_sm HO.out (by simp)
      obtain ⟨bk, off, hbo, hgl, hcl⟩ := (own_rd HO.out).at_ (by simp)
      obtain ⟨rfl, rfl⟩ : g = bk ∧ 0 = off := by injection hbo with h1; injection h1 with h2 h3; exact ⟨h2, h3⟩
      have hc5 := (own_rd HO.out).bnd
      have m0 := hcl 0 _ rfl
      have m1 := hcl 1 _ rfl
      have m2 := hcl 2 _ rfl
      have m3 := hcl 3 _ rfl
      have m4 := hcl 4 _ rfl
      simp only [List.length_cons, List.length_nil, Nat.zero_add, Nat.reduceAdd] at m0 m1 m2 m3 m4 hc5
      have bp := HA.out p (by simp)
      have bq := HA.out q (by simp)
      have br := HA.out r (by simp)
      have bt := HA.out t (by simp)
      have bu := HA.out u (by simp)
      have K2 := Lib.hid (J4.out p q r t u z HFT.out)
      clear HA hcl h5 hl5 HO hz0 hz1
      go_wp2_with fail
      go_loop [7] (fun i => ∃ (k : Nat) (y : Int), i = .int .i64 y ∧ Hid (y = (k : Int)) ∧ k ≤ 4 ∧ Hid ((0 < k → p ≤ 255) ∧ (1 < k → q ≤ 255) ∧ (2 < k → r ≤ 255) ∧ (3 < k → t ≤ 255)))
        (fun i => (4 - intOf i).toNat)
      case atStart => exact ⟨0, 0, rfl, rfl, by omega, ⟨by omega, by omega, by omega, by omega⟩⟩
      case round =>
        obtain ⟨k, y, rfl, HY, hk, HP⟩ := hrel
        rcases (by omega : k = 0 ∨ k = 1 ∨ k = 2 ∨ k = 3 ∨ k = 4) with rfl | rfl | rfl | rfl | rfl
        · obtain rfl : y = 0 := by have := HY.out; omega
          by_cases hv : p ≤ 255
          · have gv : ¬ 255 < p := by omega
            have HP2 := Lib.hid (show (0 < 1 → p ≤ 255) ∧ (1 < 1 → q ≤ 255) ∧ (2 < 1 → r ≤ 255) ∧ (3 < 1 → t ≤ 255) from by have := HP.out; omega)
            clear q0 q1 q2 q3
            go_wp2_with fail
            go_round
            case rel => exact ⟨1, 1, rfl, rfl, by omega, HP2⟩
            case measure => simp [intOf]
          · have gv : 255 < p := by omega
            have HZ := Lib.hid (K2.out.trans (if_neg (fun x => hv x.1)))
            clear hv
            go_wp2_with fail
            refine bodyPost_ret (v := .tuple #[.agg #[.int .i64 0, .int .i64 0], .bool false]) (by simp [results, Tryd.results7, go_sem, q0, q1]) rfl ⟨by first | (rw [HZ.out]; done) | (rw [HZ.out]; rfl), ?_⟩
            repeat (first | exact Br | refine Below.setCell ?_ (by simp <;> omega) _)
        · obtain rfl : y = 1 := by have := HY.out; omega
          by_cases hv : q ≤ 255
          · have gv : ¬ 255 < q := by omega
            have HP2 := Lib.hid (show (0 < 2 → p ≤ 255) ∧ (1 < 2 → q ≤ 255) ∧ (2 < 2 → r ≤ 255) ∧ (3 < 2 → t ≤ 255) from by have := HP.out; omega)
            clear q0 q1 q2 q3
            go_wp2_with fail
            go_round
            case rel => exact ⟨2, 2, rfl, rfl, by omega, HP2⟩
            case measure => simp [intOf]
          · have gv : 255 < q := by omega
            have HZ := Lib.hid (K2.out.trans (if_neg (fun x => hv x.2.1)))
            clear hv
            go_wp2_with fail
            refine bodyPost_ret (v := .tuple #[.agg #[.int .i64 0, .int .i64 0], .bool false]) (by simp [results, Tryd.results7, go_sem, q0, q1]) rfl ⟨by first | (rw [HZ.out]; done) | (rw [HZ.out]; rfl), ?_⟩
            repeat (first | exact Br | refine Below.setCell ?_ (by simp <;> omega) _)
        · obtain rfl : y = 2 := by have := HY.out; omega
          by_cases hv : r ≤ 255
          · have gv : ¬ 255 < r := by omega
            have HP2 := Lib.hid (show (0 < 3 → p ≤ 255) ∧ (1 < 3 → q ≤ 255) ∧ (2 < 3 → r ≤ 255) ∧ (3 < 3 → t ≤ 255) from by have := HP.out; omega)
            clear q0 q1 q2 q3
            go_wp2_with fail
            go_round
            case rel => exact ⟨3, 3, rfl, rfl, by omega, HP2⟩
            case measure => simp [intOf]
          · have gv : 255 < r := by omega
            have HZ := Lib.hid (K2.out.trans (if_neg (fun x => hv x.2.2.1)))
            clear hv
            go_wp2_with fail
            refine bodyPost_ret (v := .tuple #[.agg #[.int .i64 0, .int .i64 0], .bool false]) (by simp [results, Tryd.results7, go_sem, q0, q1]) rfl ⟨by first | (rw [HZ.out]; done) | (rw [HZ.out]; rfl), ?_⟩
            repeat (first | exact Br | refine Below.setCell ?_ (by simp <;> omega) _)
        · obtain rfl : y = 3 := by have := HY.out; omega
          by_cases hv : t ≤ 255
          · have gv : ¬ 255 < t := by omega
            have HP2 := Lib.hid (show (0 < 4 → p ≤ 255) ∧ (1 < 4 → q ≤ 255) ∧ (2 < 4 → r ≤ 255) ∧ (3 < 4 → t ≤ 255) from by have := HP.out; omega)
            clear q0 q1 q2 q3
            go_wp2_with fail
            go_round
            case rel => exact ⟨4, 4, rfl, rfl, by omega, HP2⟩
            case measure => simp [intOf]
          · have gv : 255 < t := by omega
            have HZ := Lib.hid (K2.out.trans (if_neg (fun x => hv x.2.2.2.1)))
            clear hv
            go_wp2_with fail
            refine bodyPost_ret (v := .tuple #[.agg #[.int .i64 0, .int .i64 0], .bool false]) (by simp [results, Tryd.results7, go_sem, q0, q1]) rfl ⟨by first | (rw [HZ.out]; done) | (rw [HZ.out]; rfl), ?_⟩
            repeat (first | exact Br | refine Below.setCell ?_ (by simp <;> omega) _)
        · obtain rfl : y = 4 := by have := HY.out; omega
          obtain ⟨hp, hq, hr, ht⟩ := HP.out
          have np := hp (by omega)
          have nq := hq (by omega)
          have nr := hr (by omega)
          have nt := ht (by omega)
          clear hp hq hr ht q0 q1 q2 q3
          go_wp2_with fail
          have w1 : IntKind.i64.wrap (p * 16777216) = p * 16777216 := by rw [IntKind.wrap_i64]; omega
          have w2 : IntKind.i64.wrap (q * 65536) = q * 65536 := by rw [IntKind.wrap_i64]; omega
          have w3 : IntKind.i64.wrap (r * 256) = r * 256 := by rw [IntKind.wrap_i64]; omega
          have o1 : bits .or .i64 (p * 16777216) (q * 65536) = p * 16777216 + q * 65536 := or_add 24 _ p (q * 65536) (by omega) (by omega) (by omega) (by omega)
          have o2 : bits .or .i64 (p * 16777216 + q * 65536) (r * 256) = p * 16777216 + q * 65536 + r * 256 := or_add 16 _ (p * 256 + q) (r * 256) (by omega) (by omega) (by omega) (by omega)
          have o3 : bits .or .i64 (p * 16777216 + q * 65536 + r * 256) t = p * 16777216 + q * 65536 + r * 256 + t := or_add 8 _ (p * 65536 + q * 256 + r) t (by omega) (by omega) (by omega) (by omega)
          go_region_held3 (fun w' => w'.cell? ⟨g, 0, none⟩ = some (.int .i64 p) ∧ w'.cell? ⟨g, 1, none⟩ = some (.int .i64 q) ∧ w'.cell? ⟨g, 2, none⟩ = some (.int .i64 r) ∧ w'.cell? ⟨g, 3, none⟩ = some (.int .i64 t) ∧ w'.cell? ⟨g, 4, none⟩ = some (.int .i64 u))
            (first | exact ⟨m0, m1, m2, m3, m4⟩ | exact ⟨(World.cell?_alloc_lt wr _ ⟨g, 0, none⟩ hgl).trans m0, (World.cell?_alloc_lt wr _ ⟨g, 1, none⟩ hgl).trans m1, (World.cell?_alloc_lt wr _ ⟨g, 2, none⟩ hgl).trans m2, (World.cell?_alloc_lt wr _ ⟨g, 3, none⟩ hgl).trans m3, (World.cell?_alloc_lt wr _ ⟨g, 4, none⟩ hgl).trans m4⟩)
            (fail)
          generalize p * 16777216 + q * 65536 + r * 256 + t = hv at *
          have HV := Lib.hid (show (p ≤ 255 ∧ q ≤ 255 ∧ r ≤ 255 ∧ t ≤ 255) from ⟨np, nq, nr, nt⟩)
          have Xd : Bw (wr.alloc (.cells #[.int .i64 hv, .int .i64 u] 23)).drew wr.heap.size (.int .i64 hv) (.int .i64 u) := by
            obtain ⟨a0, a1, a2, a3⟩ := Bw.new wr 23 (.int .i64 hv) (.int .i64 u)
            exact ⟨a0, a1, a2, a3⟩
          have bd : Below wr.heap.size wr (wr.alloc (.cells #[.int .i64 hv, .int .i64 u] 23)).drew := bdrew (balloc (Below.refl _ _) _)
          have Bd := bnext Br bd
          have wlr : w.heap.size < wr.heap.size := World.block_lt_of_cell? _ _ Rr.c0
          have Rd := Rr.below bd wlr
          have CT := Lib.hid (S_AddrText hv u (wr.alloc (.cells #[.int .i64 hv, .int .i64 u] 23)).drew)
          have zd : wr.heap.size < (wr.alloc (.cells #[.int .i64 hv, .int .i64 u] 23)).drew.heap.size := by show _ < (wr.alloc _).heap.size; simp
          clear m0 m1 m2 m3 m4 w1 w2 w3 o1 o2 o3
          go_wp2_with fail
          refine CT.out.mono ?_
          rintro e W7 ⟨rfl, b7⟩
          obtain ⟨u0, u1, u2, u3⟩ := Xd.below b7 zd
          obtain ⟨q0, q1, q2, q3⟩ := Rd.below b7 (Nat.lt_trans wlr zd)
          have B7 := bnext Bd b7
          clear CT Xd Rd bd
          by_cases he : addrT hv u = s.data.toList
          · have HZ := Lib.hid (K2.out.trans (if_pos ⟨HV.out.1, HV.out.2.1, HV.out.2.2.1, HV.out.2.2.2, he⟩))
            have es : (⟨(addrT hv u).toArray⟩ : ByteArray) = s := by rw [he]
            clear he
            go_wp2_with fail
            refine bodyPost_ret (v := .tuple #[.agg #[.int .i64 hv, .int .i64 u], .bool true]) (by simp [results, Tryd.results7, go_sem, q0, q1]) rfl ⟨by first | (rw [HZ.out]; done) | (rw [HZ.out]; rfl), ?_⟩
            repeat (first | exact B7 | refine Below.setCell ?_ (by simp <;> omega) _)
          · have HZ := Lib.hid (K2.out.trans (if_neg (fun x => he x.2.2.2.2)))
            have es : (addrT hv u == s.toList) = false := by
              rw [beq_eq_false_iff_ne, Lib.toList_data]; exact he
            clear he
            go_wp2_with fail
            refine bodyPost_ret (v := .tuple #[.agg #[.int .i64 0, .int .i64 0], .bool false]) (by simp [results, Tryd.results7, go_sem, q0, q1]) rfl ⟨by first | (rw [HZ.out]; done) | (rw [HZ.out]; rfl), ?_⟩
            repeat (first | exact B7 | refine Below.setCell ?_ (by simp <;> omega) _)
    have hkb : ((k : Int) == (s.size : Int)) = false := by rw [beq_eq_false_iff_ne]; omega
    have hkl : (k : Int) ≤ (s.size : Int) := by omega
    have hlt' : (k : Int) < (s.size : Int) := by omega
    have HTK := Lib.hid (HTk.out k hlt)
    have hcb := s[k].toNat_lt
    clear hke
    by_cases h46 : s[k] = 46
    · have e46 : s[k].toNat = 46 := by rw [h46]; rfl
      have HC := Lib.hid h46
      clear h46
      by_cases hz : 0 ≤ z
      · by_cases h4 : l.length ≤ 4
        · have HF2 := Lib.hid ((fold_snoc HTK.out.1 HTK.out.2 HF.out).trans (step_sep (.inl HC.out) hz h4))
          have HA2 := Lib.hid (show ∀ x ∈ l ++ [z], 0 ≤ x ∧ x ≤ 65539 from fun x hx => by
            rcases List.mem_append.1 hx with hx | hx
            · exact HA.out x hx
            · simp at hx; subst hx; exact ⟨hz, hz1⟩)
          have g0 : ¬ z < 0 := by omega
          have g4 : ¬ (4 : Int) < (l.length : Int) := by omega
          have HI := Lib.hid (((Ow.of_own HO.out).below (Below.refl _ _) (Nat.le_refl _)).own.alloc (.cells #[.int .i64 z] 3))
          have hr1 : Rd (wr.alloc (.cells #[.int .i64 z] 3)) (some ⟨wr.heap.size, 0, none⟩) 1 1 (iv [z]) := rd_one wr 3 _
          have b3 := hb.alloc hb.size (.cells #[.int .i64 z] 3)
          have q5 : l.length + 1 ≤ 70368744177664 / 8 := by omega
          have q6 := b3.size
          clear HO q0 q1 q2 q3
          go_wp2_with (at_builtin; refine append_ints _ rfl _ _ rfl W0.heap.size _ _ _ _ rfl HI _ _ _ [z] rfl hr1 q5 q6 ?_; intro A3 c3 W3 HO3 hb3)
          have e3 : (l ++ [z]).length = l.length + 1 := by simp
          have HO4 : Hid (W3.ownsRow W0.heap.size 3 1 (.slice A3 (l ++ [z]).length c3) (l ++ [z]).length (iv (l ++ [z]))) := by rw [e3]; exact HO3
          first
            | (refine ⟨⟨k + 1, l ++ [z], -1, c3, A3, by rw [e3], rfl, by go_num, by omega, by omega, by omega, by rw [e3]; omega, HA2, HF2, HO4, b3.trans hb3⟩, ?_⟩; simp [intOf]; omega)
            | (refine ⟨⟨k + 1, l ++ [z], -1, c3, A3, by rw [e3], rfl, by go_num, by omega, by omega, by omega, by rw [e3]; omega, HA2, HF2, HO4, b3.trans hb3⟩, ?_⟩; simp [intOf])
        · have HZ := Lib.hid (J1.out (fold_fail HTK.out.1 HTK.out.2 HF.out (step_sep_no (.inl HC.out) (.inr (by omega)))))
          have g0 : ¬ z < 0 := by omega
          have g4 : (4 : Int) < (l.length : Int) := by omega
          go_wp2_with fail
          refine bodyPost_ret (v := .tuple #[.agg #[.int .i64 0, .int .i64 0], .bool false]) (by simp [results, Tryd.results7, go_sem, q0, q1]) rfl ⟨by first | (rw [HZ.out]; done) | (rw [HZ.out]; rfl), ?_⟩
          repeat (first | exact Br | refine Below.setCell ?_ (by simp <;> omega) _)
      · have HZ := Lib.hid (J1.out (fold_fail HTK.out.1 HTK.out.2 HF.out (step_sep_no (.inl HC.out) (.inl (by omega)))))
        have g0 : z < 0 := by omega
        go_wp2_with fail
        refine bodyPost_ret (v := .tuple #[.agg #[.int .i64 0, .int .i64 0], .bool false]) (by simp [results, Tryd.results7, go_sem, q0, q1]) rfl ⟨by first | (rw [HZ.out]; done) | (rw [HZ.out]; rfl), ?_⟩
        repeat (first | exact Br | refine Below.setCell ?_ (by simp <;> omega) _)
    by_cases h58 : s[k] = 58
    · have e58 : s[k].toNat = 58 := by rw [h58]; rfl
      have HC := Lib.hid h58
      clear h58 h46
      by_cases hz : 0 ≤ z
      · by_cases h4 : l.length ≤ 4
        · have HF2 := Lib.hid ((fold_snoc HTK.out.1 HTK.out.2 HF.out).trans (step_sep (.inr HC.out) hz h4))
          have HA2 := Lib.hid (show ∀ x ∈ l ++ [z], 0 ≤ x ∧ x ≤ 65539 from fun x hx => by
            rcases List.mem_append.1 hx with hx | hx
            · exact HA.out x hx
            · simp at hx; subst hx; exact ⟨hz, hz1⟩)
          have g0 : ¬ z < 0 := by omega
          have g4 : ¬ (4 : Int) < (l.length : Int) := by omega
          have HI := Lib.hid (((Ow.of_own HO.out).below (Below.refl _ _) (Nat.le_refl _)).own.alloc (.cells #[.int .i64 z] 3))
          have hr1 : Rd (wr.alloc (.cells #[.int .i64 z] 3)) (some ⟨wr.heap.size, 0, none⟩) 1 1 (iv [z]) := rd_one wr 3 _
          have b3 := hb.alloc hb.size (.cells #[.int .i64 z] 3)
          have q5 : l.length + 1 ≤ 70368744177664 / 8 := by omega
          have q6 := b3.size
          clear HO q0 q1 q2 q3
          go_wp2_with (at_builtin; refine append_ints _ rfl _ _ rfl W0.heap.size _ _ _ _ rfl HI _ _ _ [z] rfl hr1 q5 q6 ?_; intro A3 c3 W3 HO3 hb3)
          have e3 : (l ++ [z]).length = l.length + 1 := by simp
          have HO4 : Hid (W3.ownsRow W0.heap.size 3 1 (.slice A3 (l ++ [z]).length c3) (l ++ [z]).length (iv (l ++ [z]))) := by rw [e3]; exact HO3
          first
            | (refine ⟨⟨k + 1, l ++ [z], -1, c3, A3, by rw [e3], rfl, by go_num, by omega, by omega, by omega, by rw [e3]; omega, HA2, HF2, HO4, b3.trans hb3⟩, ?_⟩; simp [intOf]; omega)
            | (refine ⟨⟨k + 1, l ++ [z], -1, c3, A3, by rw [e3], rfl, by go_num, by omega, by omega, by omega, by rw [e3]; omega, HA2, HF2, HO4, b3.trans hb3⟩, ?_⟩; simp [intOf])
        · have HZ := Lib.hid (J1.out (fold_fail HTK.out.1 HTK.out.2 HF.out (step_sep_no (.inr HC.out) (.inr (by omega)))))
          have g0 : ¬ z < 0 := by omega
          have g4 : (4 : Int) < (l.length : Int) := by omega
          go_wp2_with fail
          refine bodyPost_ret (v := .tuple #[.agg #[.int .i64 0, .int .i64 0], .bool false]) (by simp [results, Tryd.results7, go_sem, q0, q1]) rfl ⟨by first | (rw [HZ.out]; done) | (rw [HZ.out]; rfl), ?_⟩
          repeat (first | exact Br | refine Below.setCell ?_ (by simp <;> omega) _)
      · have HZ := Lib.hid (J1.out (fold_fail HTK.out.1 HTK.out.2 HF.out (step_sep_no (.inr HC.out) (.inl (by omega)))))
        have g0 : z < 0 := by omega
        go_wp2_with fail
        refine bodyPost_ret (v := .tuple #[.agg #[.int .i64 0, .int .i64 0], .bool false]) (by simp [results, Tryd.results7, go_sem, q0, q1]) rfl ⟨by first | (rw [HZ.out]; done) | (rw [HZ.out]; rfl), ?_⟩
        repeat (first | exact Br | refine Below.setCell ?_ (by simp <;> omega) _)
    have HC := Lib.hid (show ¬ (s[k] = 46 ∨ s[k] = 58) from fun h => h.elim h46 h58)
    have e46 : ((s[k].toNat : Int) == 46) = false := by
      rw [beq_eq_false_iff_ne]; intro e; apply h46; apply UInt8.toNat_inj.1; have : s[k].toNat = 46 := by omega
      exact this
    have e58 : ((s[k].toNat : Int) == 58) = false := by
      rw [beq_eq_false_iff_ne]; intro e; apply h58; apply UInt8.toNat_inj.1; have : s[k].toNat = 58 := by omega
      exact this
    clear h46 h58
    by_cases hd : 48 ≤ ((s[k].toNat : Nat) : Int) ∧ ((s[k].toNat : Nat) : Int) ≤ 57
    · have CI := Lib.hid fun W => S_in_yes ((s[k].toNat : Nat) : Int) 48 57 W hd
      have hd0 := hd.1
      have hd1 := hd.2
      have hu : IntKind.u8.wrap (((s[k].toNat : Nat) : Int) - 48) = ((s[k].toNat : Nat) : Int) - 48 := by rw [IntKind.wrap_u8]; omega
      by_cases h6 : z ≤ 6553
      · have HF2 := Lib.hid ((fold_snoc HTK.out.1 HTK.out.2 HF.out).trans (step_dig HC.out ⟨by omega, h6⟩))
        have g6 : ¬ 6553 < z := by omega
        clear hd q0 q1 q2 q3
        by_cases hn : z < 0
        · obtain rfl : z = -1 := by omega
          rw [if_pos (by omega)] at HF2
          go_wp2_with fail
          refine (CI.out _).mono ?_
          rintro e w' ⟨rfl, rfl⟩
          go_wp2_with fail
          have e0 : (10 * 0 + (((s[k].toNat : Nat) : Int) - 48)) = ((s[k].toNat : Nat) : Int) - 48 := by omega
          rw [e0] at HF2
          refine ⟨⟨k + 1, l, _, c', A', rfl, rfl, by go_num, by omega, by omega, by omega, hl5, HA, HF2, HO, hb⟩, ?_⟩
          simp [intOf]; omega
        · rw [if_neg hn] at HF2
          have hz : 0 ≤ z := by omega
          go_wp2_with fail
          refine (CI.out _).mono ?_
          rintro e w' ⟨rfl, rfl⟩
          go_wp2_with fail
          refine ⟨⟨k + 1, l, _, c', A', rfl, rfl, by go_num, by omega, by omega, by omega, hl5, HA, HF2, HO, hb⟩, ?_⟩
          simp [intOf]; omega
      · have HZ := Lib.hid (J1.out (fold_fail HTK.out.1 HTK.out.2 HF.out (step_dig_no HC.out (.inr (by omega)))))
        have g6 : 6553 < z := by omega
        go_wp2_with fail
        refine (CI.out _).mono ?_
        rintro e w' ⟨rfl, rfl⟩
        go_wp2_with fail
        refine bodyPost_ret (v := .tuple #[.agg #[.int .i64 0, .int .i64 0], .bool false]) (by simp [results, Tryd.results7, go_sem, q0, q1]) rfl ⟨by first | (rw [HZ.out]; done) | (rw [HZ.out]; rfl), ?_⟩
        repeat (first | exact Br | refine Below.setCell ?_ (by simp <;> omega) _)
    · have CI := Lib.hid fun W => S_in_no ((s[k].toNat : Nat) : Int) 48 57 W hd
      have HZ := Lib.hid (J1.out (fold_fail HTK.out.1 HTK.out.2 HF.out (step_dig_no HC.out (.inl (by omega)))))
      clear hd
      go_wp2_with fail
      refine (CI.out _).mono ?_
      rintro e w' ⟨rfl, rfl⟩
      go_wp2_with fail
      refine bodyPost_ret (v := .tuple #[.agg #[.int .i64 0, .int .i64 0], .bool false]) (by simp [results, Tryd.results7, go_sem, q0, q1]) rfl ⟨by first | (rw [HZ.out]; done) | (rw [HZ.out]; rfl), ?_⟩
      repeat (first | exact Br | refine Below.setCell ?_ (by simp <;> omega) _)

end Go.Proofs.YtkcmgeoaipjhhaaDoor
