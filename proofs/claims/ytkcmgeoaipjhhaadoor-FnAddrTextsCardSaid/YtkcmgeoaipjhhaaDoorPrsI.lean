/- Contract of the program's ParseAddr: for every string of at most 1048576 bytes, where the listed variables hold what they are listed to hold. -/
import Derived.Test.YtkcmgeoaipjhhaaDoorTextI
namespace Go.Proofs.YtkcmgeoaipjhhaaDoor
open Go.ChangeShapes Go.WideShapes Go.ChangeAt Go.RowKit
set_option linter.unusedVariables false

theorem implR_none {s : List UInt8} (h : hostF 0 (Lib.split (Lib.cut s [58]).1 [46]) = none) : implR s = (0, 0, false) := by
  rw [implR, h]
theorem implR_bad {s : List UInt8} {h : Int} (hf : hostF 0 (Lib.split (Lib.cut s [58]).1 [46]) = some h) (hp : ∀ v, Lib.atoiAll (Lib.cut s [58]).2.1 ≠ .ok v) : implR s = (0, 0, false) := by
  cases hx : Lib.atoiAll (Lib.cut s [58]).2.1 with
  | ok v => exact absurd hx (hp v)
  | _ => simp [implR, hf, hx]
theorem implR_no {s : List UInt8} {h v : Int} (hf : hostF 0 (Lib.split (Lib.cut s [58]).1 [46]) = some h) (hp : Lib.atoiAll (Lib.cut s [58]).2.1 = .ok v) (hn : ¬ (okAd h v = true ∧ addrT h v = s)) : implR s = (0, 0, false) := by
  unfold implR; rw [hf]; simp only; rw [hp]; simp only; rw [if_neg hn]
theorem implR_yes {s : List UInt8} {h v : Int} (hf : hostF 0 (Lib.split (Lib.cut s [58]).1 [46]) = some h) (hp : Lib.atoiAll (Lib.cut s [58]).2.1 = .ok v) (hn : okAd h v = true ∧ addrT h v = s) : implR s = (h, v, true) := by
  unfold implR; rw [hf]; simp only; rw [hp]; simp only; rw [if_pos hn]
theorem hostF_ok {h v : Int} {x : List UInt8} {r : List (List UInt8)} (hx : Lib.atoiAll x = .ok v) (hv : 0 ≤ v ∧ v ≤ 255 ∧ h ≤ 4294967295) : hostF h (x :: r) = hostF (256 * h + v) r := by
  rw [hostF, hx]; simp only; rw [if_pos hv]
theorem hostF_far {h v : Int} {x : List UInt8} {r : List (List UInt8)} (hx : Lib.atoiAll x = .ok v) (hv : ¬ (0 ≤ v ∧ v ≤ 255 ∧ h ≤ 4294967295)) : hostF h (x :: r) = none := by
  rw [hostF, hx]; simp only; rw [if_neg hv]
theorem hostF_bad {h : Int} {x : List UInt8} {r : List (List UInt8)} (hx : ∀ v, Lib.atoiAll x ≠ .ok v) : hostF h (x :: r) = none := by
  rw [hostF]
  split
  · rename_i v hv; exact absurd hv (hx v)
  · rfl

/-- A box of two cells that can be written. -/
structure B2 (w : World) (g : Nat) (u v : Value) : Prop where
  c0 : w.cell? ⟨g, 0, none⟩ = some u
  c1 : w.cell? ⟨g, 1, none⟩ = some v
  f0 : w.frozen? ⟨g, 0, none⟩ = false
  f1 : w.frozen? ⟨g, 1, none⟩ = false
theorem B2.new (w : World) (t : TypeId) (u v : Value) : B2 (w.alloc (.cells #[u, v] t)) w.heap.size u v := ⟨by simp [go_sem], by simp [go_sem], by simp [go_sem], by simp [go_sem]⟩
theorem B2.below {w w' : World} {g X : Nat} {u v : Value} (h : B2 w g u v) (hb : Below X w w') (hX : g < X) : B2 w' g u v :=
  ⟨(hb.cell (p := ⟨g, 0, none⟩) hX).trans h.c0, (hb.cell (p := ⟨g, 1, none⟩) hX).trans h.c1, (hb.frozen (p := ⟨g, 0, none⟩) hX).trans h.f0, (hb.frozen (p := ⟨g, 1, none⟩) hX).trans h.f1⟩
theorem B2.lt {w : World} {g : Nat} {u v : Value} (h : B2 w g u v) : g < w.heap.size := World.block_lt_of_cell? w _ h.c0
theorem B2.grown {w w' : World} {g : Nat} {u v : Value} {row : Option Nat} (h : B2 w g u v) (hg : w.grownBy w' row) (hne : row ≠ some g) : B2 w' g u v := by
  have hlt := h.lt
  have e : ∀ o, w'.heap[(⟨g, o, none⟩ : Addr).block]? = w.heap[(⟨g, o, none⟩ : Addr).block]? := fun o => hg.block g hlt fun e => hne e.symm
  exact ⟨(World.cell?_of_block (e 0)).trans h.c0, (World.cell?_of_block (e 1)).trans h.c1, (World.frozen?_of_block (e 0)).trans h.f0, (World.frozen?_of_block (e 1)).trans h.f1⟩
theorem B2.set0 {w : World} {g : Nat} {u v a : Value} (h : B2 w g u v) : B2 (w.setCell ⟨g, 0, none⟩ a) g a v := by
  obtain ⟨h0, h1, h2, h3⟩ := h
  exact ⟨by simp [go_sem, h0], by simp [go_sem, h1], by simp [go_sem, h2], by simp [go_sem, h3]⟩
theorem B2.set1 {w : World} {g : Nat} {u v a : Value} (h : B2 w g u v) : B2 (w.setCell ⟨g, 1, none⟩ a) g u a := by
  obtain ⟨h0, h1, h2, h3⟩ := h
  exact ⟨by simp [go_sem, h0], by simp [go_sem, h1], by simp [go_sem, h2], by simp [go_sem, h3]⟩
theorem B2.far {w : World} {g : Nat} {u v a : Value} {p : Addr} (h : B2 w g u v) (hp : p.block ≠ g) : B2 (w.setCell p a) g u v := by
  have e : ∀ o, (w.setCell p a).heap[(⟨g, o, none⟩ : Addr).block]? = w.heap[(⟨g, o, none⟩ : Addr).block]? := fun o => heap_setCell_other w p g a (fun e => hp e.symm)
  exact ⟨(World.cell?_of_block (e 0)).trans h.c0, (World.cell?_of_block (e 1)).trans h.c1, (World.frozen?_of_block (e 0)).trans h.f0, (World.frozen?_of_block (e 1)).trans h.f1⟩
theorem grow_set {W X : World} {g : Nat} (h : W.grownBy X (some g)) (o : Nat) (y : Value) : W.grownBy (X.setCell ⟨g, o, none⟩ y) (some g) :=
  ⟨h.os, h.tape, h.output, by simpa using h.size, fun k hk hne => (heap_setCell_other X ⟨g, o, none⟩ k y (fun e => hne (by rw [e]))).trans (h.block k hk hne)⟩
theorem grow_more {W X Y : World} {row : Option Nat} (h : W.grownBy X row) (b : Below X.heap.size X Y) : W.grownBy Y row :=
  ⟨b.os.trans h.os, b.tape.trans h.tape, b.output.trans h.output, Nat.le_trans h.size b.size, fun k hk hne => (b.block k (Nat.lt_of_lt_of_le hk h.size)).trans (h.block k hk hne)⟩
theorem grow_refl (W : World) (row : Option Nat) : W.grownBy W row := ⟨rfl, rfl, rfl, Nat.le_refl _, fun _ _ _ => rfl⟩

theorem split_le (sep : List UInt8) : ∀ (k : Nat) (l : List UInt8) (x : List UInt8), x ∈ Lib.splitK sep 0 k l → x.length ≤ l.length
  | 0, l, x, hx => by simp [Lib.splitK] at hx; rw [hx]; exact Nat.le_refl _
  | k + 1, l, x, hx => by
    rw [Lib.splitK] at hx
    split at hx
    · simp at hx; rw [hx]; exact Nat.le_refl _
    · rcases List.mem_cons.1 hx with rfl | hx
      · rw [List.length_take]; omega
      · have := split_le sep k _ x hx
        rw [List.length_drop] at this
        omega
theorem split_len (sep : List UInt8) : ∀ (k : Nat) (l : List UInt8), (Lib.splitK sep 0 k l).length ≤ k + 1
  | 0, l => by simp [Lib.splitK]
  | k + 1, l => by
    rw [Lib.splitK]
    split
    · simp
    · have := split_len sep k (l.drop ((Lib.index l sep).toNat + sep.length))
      simp only [List.length_cons]
      omega
theorem split_len1 (c : UInt8) (l : List UInt8) : (Lib.split l [c]).length ≤ l.length + 1 := by
  have h1 := split_len [c] (Lib.count l [c]) l
  have h2 : Lib.count l [c] ≤ l.length := by rw [Lib.count_one]; exact List.count_le_length
  unfold Lib.split
  omega
theorem env_lo {w w' : World} {B : Nat} (h : Env w) (hb : Below B w w') (hB : 3 < B) : Env w' := by
  have e : w'.var? Tryd.prog "internal/strconv.uint64pow10" = w.var? Tryd.prog "internal/strconv.uint64pow10" := by
    unfold World.var?
    rw [gTab]
    simp only [Option.bind_some]
    rw [hb.block 3 hB]
  exact e.trans h
theorem env_lt {w : World} (h : Env w) : 3 < w.heap.size := by
  rcases Nat.lt_or_ge 3 w.heap.size with h' | h'
  · exact h'
  · have h2 : w.var? Tryd.prog "internal/strconv.uint64pow10" = none := by
      unfold World.var?
      rw [gTab]
      simp only [Option.bind_some]
      rw [Array.getElem?_eq_none h']
    have h3 := h2.symm.trans h
    cases h3
theorem EnvP.lo {w w' : World} {B : Nat} (h : EnvP w) (hb : Below B w w') (hB : 3 < B) : EnvP w' := by
  obtain ⟨t, ⟨m, hm⟩, ⟨a, b, h1⟩, ⟨c, d, h2⟩⟩ := h
  exact ⟨env_lo t hb hB, ⟨m, (hb.cell (p := ⟨0, 0, none⟩) (by show 0 < B; omega)).trans hm⟩, ⟨a, b, (hb.cell (p := ⟨1, 0, none⟩) (by show 1 < B; omega)).trans h1⟩, ⟨c, d, (hb.cell (p := ⟨2, 0, none⟩) (by show 2 < B; omega)).trans h2⟩⟩
theorem cell_list (w : World) (l : List Value) (t : TypeId) (k : Nat) (v : Value) (h : l[k]? = some v) : (w.alloc (.cells l.toArray t)).cell? ⟨w.heap.size, k, none⟩ = some v := by
  simp [go_sem, h]
/-- What a call of ParseAddr answers. -/
def prsV (r : Int × Int × Bool) : Value := .tuple #[.agg #[.int .i64 r.1, .int .i64 r.2.1], .bool r.2.2]

set_option maxRecDepth 100000 in
set_option maxHeartbeats 4000000 in
theorem I_ParseAddr (s : ByteArray) (w : World) (hs : s.size ≤ 1048576) (E : EnvP w) :
    Calls Tryd.prog 8 #[.string s] w fun e w' => e = .returned (prsV (implR s.data.toList)) ∧ Below w.heap.size w w' := by
  obtain ⟨W0, hW0⟩ : ∃ V, V = w.alloc (.cells #[.int .i64 0, .int .i64 0] 23) := ⟨_, rfl⟩
  have B0 : Below w.heap.size w W0 := by rw [hW0]; exact balloc (Below.refl _ _) _
  have R0 : B2 W0 w.heap.size (.int .i64 0) (.int .i64 0) := by rw [hW0]; exact B2.new _ _ _ _
  have HW := Lib.hid hW0
  have HS := Lib.hid (show s.data.toList.length = s.size from (Lib.size_eq s).symm)
  clear hW0
  have HI := Lib.hid (rfl : implR s.data.toList = implR s.data.toList)
  have C := Lib.hid (L_Cut s W0 (by omega) (E.below B0))
  have hcl : (Lib.cut s.data.toList [58]).1.length ≤ 1048576 := by
    have h := HS.out
    unfold Lib.cut
    split
    · show (List.take _ _).length ≤ _; rw [List.length_take]; omega
    · show s.data.toList.length ≤ _; omega
  have hpl : (Lib.cut s.data.toList [58]).2.1.length ≤ 1048576 := by
    have h := HS.out
    unfold Lib.cut
    split
    · show (List.drop _ _).length ≤ _; rw [List.length_drop]; omega
    · show (0 : Nat) ≤ _; omega
  have I1 := fun (hf : hostF 0 (Lib.split (Lib.cut s.data.toList [58]).1 [46]) = none) => implR_none hf
  have I2 := fun (h : Int) (hf : hostF 0 (Lib.split (Lib.cut s.data.toList [58]).1 [46]) = some h) (hp : ∀ v, Lib.atoiAll (Lib.cut s.data.toList [58]).2.1 ≠ .ok v) => implR_bad hf hp
  have I3 := fun (h v : Int) (hf : hostF 0 (Lib.split (Lib.cut s.data.toList [58]).1 [46]) = some h) (hp : Lib.atoiAll (Lib.cut s.data.toList [58]).2.1 = .ok v) (hn : ¬ (okAd h v = true ∧ addrT h v = s.data.toList)) => implR_no hf hp hn
  have I4 := fun (h v : Int) (hf : hostF 0 (Lib.split (Lib.cut s.data.toList [58]).1 [46]) = some h) (hp : Lib.atoiAll (Lib.cut s.data.toList [58]).2.1 = .ok v) (hn : okAd h v = true ∧ addrT h v = s.data.toList) => implR_yes hf hp hn
  generalize (Lib.cut s.data.toList [58]).1 = H at *
  generalize (Lib.cut s.data.toList [58]).2.1 = PT at *
  generalize (Lib.cut s.data.toList [58]).2.2 = bb at *
  have J1 := Lib.hid I1
  have J2 := Lib.hid I2
  have J3 := Lib.hid I3
  have J4 := Lib.hid I4
  clear I1 I2 I3 I4 HI
  go_enter Tryd.func8, Tryd.ntmps8
  go_wp2_with fail
  rw [← HW.out]
  refine C.out.mono ?_
  rintro e W1 ⟨rfl, b1⟩
  have B1 := bnext B0 b1
  have R1 := R0.below b1 R0.lt
  clear HW C R0
  obtain ⟨W2, hW2⟩ : ∃ V, V = W1.alloc (.cells #[.int .i64 0, .int .i64 0] 23) := ⟨_, rfl⟩
  have b2 : Below W1.heap.size W1 W2 := by rw [hW2]; exact balloc (Below.refl _ _) _
  have X2 : B2 W2 W1.heap.size (.int .i64 0) (.int .i64 0) := by rw [hW2]; exact B2.new _ _ _ _
  have B2' := bnext B1 b2
  have R2 := R1.below b2 R1.lt
  have HW2 := Lib.hid hW2
  have CS := Lib.hid (L_Split H W2 (by omega) (E.below B2'))
  clear hW2
  go_wp2_with fail
  rw [← HW2.out]
  refine CS.out.mono ?_
  rintro e W3 ⟨ws, hws, rfl, hW3⟩
  have hcs : ∀ (k : Nat) x, ws[k]? = some x → W3.cell? ⟨W2.heap.size, k, none⟩ = some (.string x) := fun k x hk => by
    rw [hW3]; exact cell_list W2 (sv ws) _ k _ (by simp only [sv, List.getElem?_map, hk, Option.map_some])
  have b3 : Below W2.heap.size W2 W3 := by rw [hW3]; exact balloc (Below.refl _ _) _
  have z3 : W2.heap.size < W3.heap.size := by rw [hW3]; simp
  have X3 := X2.below b3 X2.lt
  have R3 := R2.below b3 R2.lt
  have B3 := bnext B2' b3
  have g12 : W1.heap.size < W2.heap.size := X2.lt
  have gw1 : w.heap.size < W1.heap.size := R1.lt
  have HWS := Lib.hid hws
  have hwn : ws.length ≤ 1048577 := by
    have h1 := split_len1 46 H
    rw [← hws, List.length_map] at h1
    omega
  have E3 := E.below B3
  have hlen : ∀ x ∈ ws, x.size ≤ 1048576 := fun x hx => by
    have h1 := split_le [46] _ H x.data.toList (by have h2 := List.mem_map_of_mem (f := fun y : ByteArray => y.data.toList) hx; rw [hws] at h2; exact h2)
    rw [Lib.size_eq]; omega
  clear HW2 CS hW3 X2 R2 b3 hws
  go_wp2_with fail
  go_loopw [24] (fun i wr => ∃ (k : Nat) (h : Int), i = .int .i64 (k : Int) ∧ k ≤ ws.length ∧ 0 ≤ h ∧ h ≤ 1099511627775 ∧ B2 wr W1.heap.size (.int .i64 h) (.int .i64 0) ∧
      Hid (hostF h ((ws.map (·.data.toList)).drop k) = hostF 0 (ws.map (·.data.toList))) ∧ W3.grownBy wr (some W1.heap.size))
    (fun i _ => ws.length - (intOf i).toNat)
  case atStart => exact ⟨0, 0, rfl, by omega, by omega, by omega, X3, rfl, grow_refl _ _⟩
  case round =>
    obtain ⟨k, h, rfl, hk, hh0, hh1, Xr, HF, G⟩ := hrel
    have Rr := R3.grown G (fun e => by injection e with e; omega)
    have hg3 : 3 < W1.heap.size := by have := env_lt E.tab; omega
    have Bg : Below W1.heap.size W3 wr := grown_below G (fun x hx => by injection hx with hx; omega) (by omega)
    have Er : EnvP wr := E3.lo Bg hg3
    have Br : Below w.heap.size w wr := B3.trans (Bg.mono (by omega))
    by_cases hlt : k < ws.length
    · have hlt' : (k : Int) < (ws.length : Int) := by omega
      have hx := hcs k _ (List.getElem?_eq_getElem hlt)
      have hxr := G.cell hx (fun e => Nat.ne_of_gt g12 (Option.some.inj e))
      have hxl := hlen _ (List.getElem_mem hlt)
      have hdr : (ws.map (·.data.toList)).drop k = ws[k].data.toList :: (ws.map (·.data.toList)).drop (k + 1) := by
        rw [List.drop_eq_getElem_cons (by simpa using hlt)]; simp
      have HF2 := Lib.hid (hdr ▸ HF.out)
      clear hx hdr HF
      generalize ws[k] = x at *
      have HN := Lib.hid (fun (hn : hostF h (x.data.toList :: (ws.map (·.data.toList)).drop (k + 1)) = none) => J1.out (by rw [← HWS.out, ← HF2.out]; exact hn))
      have glr := Xr.lt
      have wlr := Rr.lt
      cases hx : Lib.atoiAll x.data.toList with
      | ok v =>
        have CY := Lib.hid (L_Atoi_yes x v wr (by omega) hx)
        have HX := Lib.hid hx
        clear hx
        go_wp2_with fail
        refine CY.out.mono ?_
        rintro e W4 ⟨rfl, b4⟩
        have X4 := Xr.below b4 glr
        have R4 := Rr.below b4 wlr
        have B4 := bnext Br b4
        have G4 := grow_more G b4
        clear CY Xr Rr Er hxr Bg
        obtain ⟨p0, p1, p2, p3⟩ := id X4
        obtain ⟨q0, q1, q2, q3⟩ := id R4
        by_cases hv : 0 ≤ v ∧ v ≤ 255
        · have CI := Lib.hid fun W => I_in_yes v 0 255 W hv
          by_cases hm : h ≤ 4294967295
          · have HF3 := Lib.hid ((hostF_ok (r := (ws.map (·.data.toList)).drop (k + 1)) HX.out ⟨hv.1, hv.2, hm⟩).symm.trans HF2.out)
            have hv0 := hv.1
            have hv1 := hv.2
            have gm : ¬ 4294967295 < h := by omega
            go_wp2_with fail
            refine (CI.out _).mono ?_
            rintro e w' ⟨rfl, rfl⟩
            go_wp2_with fail
            have X5 := X4.set0 (a := .int .i64 (256 * h + v))
            have G5 := grow_set G4 0 (.int .i64 (256 * h + v))
            clear p0 p1 p2 p3 q0 q1 q2 q3 X4 G4
            go_roundw
            case rel => exact ⟨k + 1, 256 * h + v, by go_num, by omega, by omega, by omega, X5, HF3, G5⟩
            case measure => simp [intOf]; omega
          · have HZ := Lib.hid (HN.out (hostF_far HX.out (fun x => hm x.2.2)))
            have gm : 4294967295 < h := by omega
            go_wp2_with fail
            refine (CI.out _).mono ?_
            rintro e w' ⟨rfl, rfl⟩
            go_wp2_with fail
            refine bodyPost_ret (v := .tuple #[.agg #[.int .i64 0, .int .i64 0], .bool false]) (by simp [results, Tryd.results8, go_sem, q0, q1]) rfl ⟨by first | (rw [HZ.out]; done) | (rw [HZ.out]; rfl), ?_⟩
            repeat (first | exact B4 | refine Below.setCell ?_ (by simp) _)
        · have CI := Lib.hid fun W => I_in_no v 0 255 W hv
          have HZ := Lib.hid (HN.out (hostF_far HX.out (fun x => hv ⟨x.1, x.2.1⟩)))
          clear hv
          go_wp2_with fail
          refine (CI.out _).mono ?_
          rintro e w' ⟨rfl, rfl⟩
          go_wp2_with fail
          refine bodyPost_ret (v := .tuple #[.agg #[.int .i64 0, .int .i64 0], .bool false]) (by simp [results, Tryd.results8, go_sem, q0, q1]) rfl ⟨by first | (rw [HZ.out]; done) | (rw [HZ.out]; rfl), ?_⟩
          repeat (first | exact B4 | refine Below.setCell ?_ (by simp) _)
      | _ =>
        have hno : ∀ v, Lib.atoiAll x.data.toList ≠ .ok v := fun v e => by rw [e] at hx; cases hx
        have CY := Lib.hid (L_Atoi_no x wr (by omega) Er hno)
        have HZ := Lib.hid (HN.out (hostF_bad hno))
        clear hno hx
        go_wp2_with fail
        refine CY.out.mono ?_
        rintro e W4 ⟨N, z, rfl, b4⟩
        obtain ⟨q0, q1, q2, q3⟩ := Rr.below b4 wlr
        have B4 := bnext Br b4
        go_wp2_with fail
        refine bodyPost_ret (v := .tuple #[.agg #[.int .i64 0, .int .i64 0], .bool false]) (by simp [results, Tryd.results8, go_sem, q0, q1]) rfl ⟨by first | (rw [HZ.out]; done) | (rw [HZ.out]; rfl), ?_⟩
        repeat (first | exact B4 | refine Below.setCell ?_ (by simp) _)
    · have hke : k = ws.length := by omega
      subst hke
      have hf : hostF 0 (Lib.split H [46]) = some h := by
        rw [← HWS.out, ← HF.out, List.drop_of_length_le (by simp)]; rfl
      have HH := Lib.hid hf
      have glr := Xr.lt
      have wlr := Rr.lt
      have gne : W1.heap.size ≠ w.heap.size := Nat.ne_of_gt gw1
      have hps : (⟨PT.toArray⟩ : ByteArray).size ≤ 4000000 := by
        have e : (⟨PT.toArray⟩ : ByteArray).size = PT.length := by simp [ByteArray.size]
        omega
      clear hf HF hcs hlen E3 hk hlt
      cases hx : Lib.atoiAll PT with
      | ok v =>
        have CY := Lib.hid (L_Atoi_yes ⟨PT.toArray⟩ v wr hps hx)
        have HX := Lib.hid hx
        clear hx
        go_wp2_with fail
        refine CY.out.mono ?_
        rintro e W4 ⟨rfl, b4⟩
        have X4 := (Xr.below b4 glr)
        have R4 := (Rr.below b4 wlr)
        have B4 := bnext Br b4
        have E4 := Er.below b4
        have z4 := b4.size
        obtain ⟨p0, p1, p2, p3⟩ := id X4
        have X5 := X4.set1 (a := .int .i64 v)
        have R5 := R4.far (p := (⟨W1.heap.size, 1, none⟩ : Addr)) (a := .int .i64 v) gne
        have B5 : Below w.heap.size w (W4.setCell ⟨W1.heap.size, 1, none⟩ (.int .i64 v)) := B4.setCell (Nat.le_of_lt gw1) _
        have E5 : EnvP (W4.setCell ⟨W1.heap.size, 1, none⟩ (.int .i64 v)) := E4.lo ((Below.refl W1.heap.size W4).setCell (Nat.le_refl _) _) hg3
        have CK := Lib.hid (I_AddrOk h v (W4.setCell ⟨W1.heap.size, 1, none⟩ (.int .i64 v)))
        clear CY Xr Rr Er Bg
        cases hok : okAd h v with
        | false =>
          have HZ := Lib.hid (J3.out h v HH.out HX.out (fun x => by rw [hok] at x; cases x.1))
          have CK2 := Lib.hid (CK.out.mono fun e w' h' => (⟨by rw [h'.1, hok], h'.2⟩ : e = .returned (.bool false) ∧ Below (W4.setCell ⟨W1.heap.size, 1, none⟩ (.int .i64 v)).heap.size (W4.setCell ⟨W1.heap.size, 1, none⟩ (.int .i64 v)) w'))
          clear hok CK
          go_wp2_with fail
          refine CK2.out.mono ?_
          rintro e W6 ⟨rfl, b6⟩
          obtain ⟨q0, q1, q2, q3⟩ := R5.below b6 R5.lt
          have B6 := bnext B5 b6
          clear p0 p1 p2 p3
          go_wp2_with fail
          refine bodyPost_ret (v := .tuple #[.agg #[.int .i64 0, .int .i64 0], .bool false]) (by simp [results, Tryd.results8, go_sem, q0, q1]) rfl ⟨by first | (rw [HZ.out]; done) | (rw [HZ.out]; rfl), ?_⟩
          repeat (first | exact B6 | refine Below.setCell ?_ (by simp <;> omega) _)
        | true =>
          have CK2 := Lib.hid (CK.out.mono fun e w' h' => (⟨by rw [h'.1, hok], h'.2⟩ : e = .returned (.bool true) ∧ Below (W4.setCell ⟨W1.heap.size, 1, none⟩ (.int .i64 v)).heap.size (W4.setCell ⟨W1.heap.size, 1, none⟩ (.int .i64 v)) w'))
          have HO := Lib.hid hok
          clear hok CK
          go_wp2_with fail
          refine CK2.out.mono ?_
          rintro e W6 ⟨rfl, b6⟩
          have X6 := X5.below b6 X5.lt
          have R6 := R5.below b6 R5.lt
          have B6 := bnext B5 b6
          have E6 := E5.below b6
          obtain ⟨u0, u1, u2, u3⟩ := id X6
          clear p0 p1 p2 p3 X5 R5 E5 B5
          have CT := Lib.hid (I_AddrText h v W6 E6.tab)
          go_wp2_with fail
          refine CT.out.mono ?_
          rintro e W7 ⟨rfl, b7⟩
          have X7 := X6.below b7 X6.lt
          obtain ⟨q0, q1, q2, q3⟩ := R6.below b7 R6.lt
          have B7 := bnext B6 b7
          clear u0 u1 u2 u3 X6 R6 E6
          obtain ⟨u0, u1, u2, u3⟩ := X7
          by_cases he : addrT h v = s.data.toList
          · have HZ := Lib.hid (J4.out h v HH.out HX.out ⟨HO.out, he⟩)
            have es : (⟨(addrT h v).toArray⟩ : ByteArray) = s := by rw [he]
            clear he
            go_wp2_with fail
            refine bodyPost_ret (v := .tuple #[.agg #[.int .i64 h, .int .i64 v], .bool true]) (by simp [results, Tryd.results8, go_sem, q0, q1]) rfl ⟨by first | (rw [HZ.out]; done) | (rw [HZ.out]; rfl), ?_⟩
            repeat (first | exact B7 | refine Below.setCell ?_ (by simp <;> omega) _)
          · have HZ := Lib.hid (J3.out h v HH.out HX.out (fun x => he x.2))
            have es : (addrT h v == s.toList) = false := by
              rw [beq_eq_false_iff_ne, Lib.toList_data]; exact he
            clear he
            go_wp2_with fail
            refine bodyPost_ret (v := .tuple #[.agg #[.int .i64 0, .int .i64 0], .bool false]) (by simp [results, Tryd.results8, go_sem, q0, q1]) rfl ⟨by first | (rw [HZ.out]; done) | (rw [HZ.out]; rfl), ?_⟩
            repeat (first | exact B7 | refine Below.setCell ?_ (by simp <;> omega) _)
      | _ =>
        have hno : ∀ v, Lib.atoiAll PT ≠ .ok v := fun v e => by rw [e] at hx; cases hx
        have CY := Lib.hid (L_Atoi_no ⟨PT.toArray⟩ wr hps Er hno)
        have HZ := Lib.hid (J2.out h HH.out hno)
        clear hno hx
        go_wp2_with fail
        refine CY.out.mono ?_
        rintro e W4 ⟨N, z, rfl, b4⟩
        obtain ⟨p0, p1, p2, p3⟩ := Xr.below b4 glr
        obtain ⟨q0, q1, q2, q3⟩ := (Rr.below b4 wlr)
        have B4 := bnext Br b4
        go_wp2_with fail
        refine bodyPost_ret (v := .tuple #[.agg #[.int .i64 0, .int .i64 0], .bool false]) (by simp [results, Tryd.results8, go_sem, q0, q1]) rfl ⟨by first | (rw [HZ.out]; done) | (rw [HZ.out]; rfl), ?_⟩
        repeat (first | exact B4 | refine Below.setCell ?_ (by simp <;> omega) _)

end Go.Proofs.YtkcmgeoaipjhhaaDoor
