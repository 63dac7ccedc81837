/- The round constants and the initial words of the program's SHA-256: contracts of RoundWord, l2K and Start (reference and program). -/
import Derived.Test.YtnngiampfdjlfaaWord
import Derived.Great.BuildSlice
import Derived.Deep.Cut
namespace Go.Proofs.Ytnngiampfdjlfaa
open Go.ChangeShapes Go.WideShapes Go.ChangeAt Go.RowKit
set_option linter.unusedVariables false

/-- The 64 round constants. -/
def kTab : List Int := [1116352408, 1899447441, 3049323471, 3921009573, 961987163, 1508970993, 2453635748, 2870763221, 3624381080, 310598401, 607225278, 1426881987, 1925078388, 2162078206, 2614888103, 3248222580, 3835390401, 4022224774, 264347078, 604807628, 770255983, 1249150122, 1555081692, 1996064986, 2554220882, 2821834349, 2952996808, 3210313671, 3336571891, 3584528711, 113926993, 338241895, 666307205, 773529912, 1294757372, 1396182291, 1695183700, 1986661051, 2177026350, 2456956037, 2730485921, 2820302411, 3259730800, 3345764771, 3516065817, 3600352804, 4094571909, 275423344, 430227734, 506948616, 659060556, 883997877, 958139571, 1322822218, 1537002063, 1747873779, 1955562222, 2024104815, 2227730452, 2361852424, 2428436474, 2756734187, 3204031479, 3329325298]
theorem kTab_len : kTab.length = 64 := rfl
/-- The round constant with index i. -/
def kAt (i : Nat) : Int := kTab.getD i 0
theorem kTab_get (i : Nat) (h : i < 64) : kTab[i]? = some (kAt i) := by
  have hl : i < kTab.length := by rw [kTab_len]; exact h
  simp [kAt, List.getD, hl]
theorem kAt_all : ∀ i : Fin 64, 0 ≤ kAt i.val ∧ kAt i.val < 4294967296 := by decide
theorem kAt_bd (i : Nat) : 0 ≤ kAt i ∧ kAt i < 4294967296 := by
  by_cases h : i < 64
  · exact kAt_all ⟨i, h⟩
  · have hl : kTab.length ≤ i := by rw [kTab_len]; omega
    unfold kAt
    simp [List.getD, List.getElem?_eq_none hl]

theorem wpList_store_tab {P : Program} {ops : Array Oper} {rest : List Oper} {o : Oper} {a : Act} {w : World} {Q : Exit → Act → World → Prop} (hgd : o.guard = none) (ty : TypeId) (x y : Operand) (ho : o.op = .store ty x y)
    (hd : o.dst = none) (g : Nat) (cells : Array Value) (hx : a.eval x = .pointer (some ⟨g, 0, none⟩)) (hy : a.eval y = .agg cells)
    (t : TypeId) (old : Array Value) (hg : w.heap[g]? = some (.cells old t (0, 0))) (hi : (P.info? ty).map (·.size) = some cells.size)
    (hold : old.size = cells.size) (h1 : cells.all (·.oneCell') = true) (i : Nat) (v : Value) (hv : cells[i]? = some v)
    (h : ∀ w', w'.cell? ⟨g, i, none⟩ = some v → Below g w w' → wpList P ops Q rest a w') : wpList P ops Q (o :: rest) a w := by
  refine wpList_store_rowTo hgd ty x y ho hd g cells hx hy t old hg hi hold h1 (h _ ?_ ⟨rfl, rfl, rfl, by simp [World.setRow], fun k hk => setRow_other w g k cells (by omega)⟩)
  rw [cell_of_row _ g i cells t (0, 0) (setRow_heap w g old cells t _ hg)]
  exact hv

set_option maxRecDepth 100000 in
theorem I_RoundWord_in (i : Nat) (hi : i ≤ 63) (w : World) : Calls Try.prog 66 #[.int .i64 (i : Int)] w fun e w' => e = .returned (.int .i64 (kAt i)) ∧ Below w.heap.size w w' := by
  go_enter Try.func66, Try.ntmps66
  go_upto_region 3 with fail
  apply wp_region_lit
  refine wpList_buildFlatArrTo rfl 74 3 64 _ rfl .i64 kTab (some 10) rfl (by kernel_rfl) (by kernel_rfl) (by kernel_rfl) (by kernel_rfl) ?_
  go_wp2_with (refine wpList_store_tab rfl 74 (.tmp 3) (.tmp 10) rfl rfl w.heap.size (kTab.map (Value.int .i64)).toArray rfl ?s0 74 _ (heap_alloc_new w _) ?s1 ?s2 ?s3 i (.int .i64 (kAt i)) ?s4 ?s5)
  case s0 => rfl
  case s1 => kernel_rfl
  case s2 => kernel_rfl
  case s3 => kernel_rfl
  case s4 => simp [kTab_get i (by omega)]
  intro w1 hc1 hb1
  go_wp2
  go_ret
  exact ⟨rfl, (balloc (Below.refl _ _) _).trans (hb1.mono (Nat.le_refl _))⟩

set_option maxRecDepth 100000 in
theorem S_2K (w : World) : Calls Try.prog 53 #[] w fun e w' => e = .returned (.slice (some ⟨w.heap.size, 0, none⟩) 64 64) ∧ w' = w.alloc (.cells (kTab.map (Value.int .i64)).toArray 3) := by
  go_enter Try.func53, Try.ntmps53
  go_upto_region 1 with fail
  apply wp_region_lit
  refine wpList_buildFlat rfl 27 3 64 _ rfl .i64 kTab (by kernel_rfl) (by kernel_rfl) (by kernel_rfl) (by kernel_rfl) (by decide) (by decide) (by kernel_rfl) ?_
  go_wp2
  go_ret
  exact ⟨rfl, rfl⟩

theorem S_2K_out (w : World) : Calls Try.prog 53 #[] w fun e w' => Out 3 w (iv kTab) e w' :=
  (S_2K w).mono fun e w' ⟨he, hw⟩ => by
    subst he; subst hw
    exact (out_lit w 3 (kTab.map (Value.int .i64)).toArray 64 (by simp [kTab_len]) (by omega)).conv (by simp [iv])

/-- RoundWord of the program: on every 64-bit integer. -/
def roundW (i : Int) : Int := if 0 ≤ i ∧ i ≤ 63 then kAt i.toNat else 0

theorem I_RoundWord (i : Int) (w : World) : Calls Try.prog 66 #[.int .i64 i] w fun e w' => e = .returned (.int .i64 (roundW i)) ∧ Below w.heap.size w w' := by
  by_cases h : 0 ≤ i ∧ i ≤ 63
  · obtain ⟨j, rfl⟩ := Int.eq_ofNat_of_zero_le h.1
    have e1 : roundW (j : Int) = kAt j := by simp [roundW, h.2]
    rw [e1]
    exact I_RoundWord_in j (by omega) w
  · have e1 : roundW i = 0 := by simp [roundW, h]
    have HR := Lib.hid e1
    clear e1
    by_cases h1 : i < 0
    · clear h
      go_enter Try.func66, Try.ntmps66
      go_wp2_with fail
      go_ret
      exact ⟨by rw [HR.out]; rfl, Below.refl _ _⟩
    · have h2 : 63 < i := by omega
      clear h
      go_enter Try.func66, Try.ntmps66
      go_wp2_with fail
      go_ret
      exact ⟨by rw [HR.out]; rfl, Below.refl _ _⟩

/-- The initial words. -/
def startL : List Int := [1779033703, 3144134277, 1013904242, 2773480762, 1359893119, 2600822924, 528734635, 1541459225]
theorem S_Start (w : World) : Calls Try.prog 45 #[] w fun e w' => Out 3 w (iv startL) e w' := by
  go_enter Try.func45, Try.ntmps45
  go_wp2_with fail
  go_ret
  exact out_lit w 3 #[.int .i64 1779033703, .int .i64 3144134277, .int .i64 1013904242, .int .i64 2773480762, .int .i64 1359893119, .int .i64 2600822924, .int .i64 528734635, .int .i64 1541459225] 8 rfl (by omega)
theorem I_Start (w : World) : Calls Try.prog 43 #[] w fun e w' => Out 3 w (iv startL) e w' := by
  go_enter Try.func43, Try.ntmps43
  go_wp2_with fail
  go_ret
  exact out_lit w 3 #[.int .i64 1779033703, .int .i64 3144134277, .int .i64 1013904242, .int .i64 2773480762, .int .i64 1359893119, .int .i64 2600822924, .int .i64 528734635, .int .i64 1541459225] 8 rfl (by omega)

end Go.Proofs.Ytnngiampfdjlfaa
