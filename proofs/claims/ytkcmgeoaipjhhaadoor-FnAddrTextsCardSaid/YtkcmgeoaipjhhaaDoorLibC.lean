/- Contracts of the library's functions in the words of these proofs: what each returns, and that it makes new memory alone; under what the listed variables hold. -/
import Derived.Test.YtkcmgeoaipjhhaaDoorShelf
import Derived.Test.YtkcmgeoaipjhhaaDoorTextA
import Derived.Lib.AppendIntMem
import Derived.Lib.AtoiErrMem
namespace Go.Proofs.YtkcmgeoaipjhhaaDoor
open Go.ChangeShapes Go.WideShapes Go.ChangeAt Go.RowKit
set_option linter.unusedVariables false

/-- The table that the numerals are made with. -/
abbrev Env (w : World) : Prop := Lib.TabIs Tryd.prog w "internal/strconv.uint64pow10" .u64 Lib.pow10Tab
/-- What a text is read with. -/
structure EnvP (w : World) : Prop where
  tab : Env w
  mx : ∃ m : Int, w.cell? ⟨0, 0, none⟩ = some (.int .i64 m)
  es : ∃ tp p, w.cell? ⟨1, 0, none⟩ = some (.iface tp p)
  er : ∃ tp p, w.cell? ⟨2, 0, none⟩ = some (.iface tp p)
theorem gTab : Tryd.prog.globalNamed "internal/strconv.uint64pow10" = some 3 := by kernel_rfl
theorem env_below {w w' : World} (h : Env w) (hb : Below w.heap.size w w') : Env w' := Lib.tabBelow_of_tabIs h w' hb
theorem EnvP.below {w w' : World} (h : EnvP w) (hb : Below w.heap.size w w') : EnvP w' := by
  obtain ⟨t, ⟨m, hm⟩, ⟨a, b, h1⟩, ⟨c, d, h2⟩⟩ := h
  exact ⟨env_below t hb, ⟨m, (hb.cell (World.block_lt_of_cell? _ _ hm)).trans hm⟩, ⟨a, b, (hb.cell (World.block_lt_of_cell? _ _ h1)).trans h1⟩, ⟨c, d, (hb.cell (World.block_lt_of_cell? _ _ h2)).trans h2⟩⟩

theorem L_Itoa (n : Nat) (z : Int) (w : World) (E : Env w) (hz : (n : Int) = z) (hn : n ≤ 4294967295) :
    Calls Tryd.prog 34 #[.int .i64 z] w fun e w' => e = .returned (.string ⟨(dgs n).toArray⟩) ∧ Below w.heap.size w w' := by
  subst hz
  refine (Tryd.strconv_Itoa (n : Int) (by omega) (by omega) w E).mono ?_
  rintro e w' ⟨rfl, k, os, rfl⟩
  exact ⟨by rw [Lib.itoa_nonneg], Lib.below_grow _ _ (Nat.le_refl _) _ _⟩
theorem L_Atoi_yes (s : ByteArray) (v : Int) (w : World) (hs : s.size ≤ 4000000) (h : Lib.atoiAll s.data.toList = .ok v) :
    Calls Tryd.prog 26 #[.string s] w fun e w' => e = .returned (.tuple #[.int .i64 v, .nilIface]) ∧ Below w.heap.size w w' := by
  refine (Tryd.strconv_Atoi_ok s (by omega) v h w).mono ?_
  rintro e w' ⟨rfl, rfl | ⟨t, rfl⟩⟩
  · exact ⟨rfl, Below.refl _ _⟩
  · exact ⟨rfl, Lib.bytesWorld_below _ _ _⟩
theorem L_Atoi_no (s : ByteArray) (w : World) (hs : s.size ≤ 4000000) (E : EnvP w) (h : ∀ v, Lib.atoiAll s.data.toList ≠ .ok v) :
    Calls Tryd.prog 26 #[.string s] w fun e w' => ∃ (N : Nat) (z : Int), e = .returned (.tuple #[.int .i64 z, .iface 87 (.pointer (some ⟨N, 0, none⟩))]) ∧ Below w.heap.size w w' := by
  obtain ⟨t, m, ⟨a, b, h1⟩, ⟨c, d, h2⟩⟩ := E
  rcases hx : Lib.atoiAll s.data.toList with v | _ | _
  · exact absurd hx (h v)
  · refine (Any.strconv_Atoi_syntax Tryd.laysC172 s (by omega) hx _ w h1 (.inr ⟨_, _, rfl⟩)).mono ?_
    rintro e w' ⟨N, rfl, -, -, hb⟩
    exact ⟨N, 0, rfl, hb⟩
  · refine (Any.strconv_Atoi_range Tryd.laysC172 s (by omega) hx _ w h2 (.inr ⟨_, _, rfl⟩)).mono ?_
    rintro e w' ⟨N, rfl, -, -, hb⟩
    exact ⟨N, _, rfl, hb⟩
theorem L_Cut (s : ByteArray) (w : World) (hs : s.size ≤ 4000000) (E : EnvP w) :
    Calls Tryd.prog 24 #[.string s, .string ⟨#[58]⟩] w fun e w' => e = .returned (.tuple #[.string ⟨(Lib.cut s.data.toList [58]).1.toArray⟩, .string ⟨(Lib.cut s.data.toList [58]).2.1.toArray⟩, .bool (Lib.cut s.data.toList [58]).2.2]) ∧ Below w.heap.size w w' := by
  obtain ⟨m, hm⟩ := E.mx
  refine (Tryd.strings_Cut s ⟨#[58]⟩ m w (by omega) hm).mono ?_
  rintro e w' ⟨rfl, n, rfl⟩
  exact ⟨rfl, Joins.below_draws _ _ _⟩
/-- The cells of a list of strings. -/
def sv (l : List ByteArray) : List Value := l.map Value.string
theorem L_Split (l : List UInt8) (w : World) (hs : l.length ≤ 4000000) (E : EnvP w) :
    Calls Tryd.prog 25 #[.string ⟨l.toArray⟩, .string ⟨#[46]⟩] w fun e w' => ∃ ws : List ByteArray, ws.map (·.data.toList) = Lib.split l [46] ∧ e = .returned (.slice (some ⟨w.heap.size, 0, none⟩) ws.length ws.length) ∧ w' = w.alloc (.cells (sv ws).toArray 9) := by
  obtain ⟨m, hm⟩ := E.mx
  have hsz : (⟨l.toArray⟩ : ByteArray).size = l.length := by simp [ByteArray.size]
  refine (Tryd.strings_Split ⟨l.toArray⟩ ⟨#[46]⟩ m w (by omega) hm (by decide)).mono ?_
  rintro e w' ⟨rfl, rfl⟩
  refine ⟨Lib.splitB ⟨#[46]⟩ 0 (Lib.countB ⟨l.toArray⟩ ⟨#[46]⟩) ⟨l.toArray⟩, ?_, ?_, rfl⟩
  · rw [Lib.splitB_data]; rfl
  · rw [Lib.splitB_all _ (by decide) 0 _ _ rfl]
theorem L_Join (bk o c : Nat) (xs : List ByteArray) (w : World) (hc : ∀ (j : Nat) x, xs[j]? = some x → w.cell? ⟨bk, o + j, none⟩ = some (.string x)) (hbk : bk < w.heap.size) (hN : xs.length ≤ 10) (hcap : xs.length ≤ c)
    (hlen : (Lib.join (xs.map (·.data.toList)) [46]).length ≤ 1000) :
    Calls Tryd.prog 35 #[.slice (some ⟨bk, o, none⟩) xs.length c, .string ⟨#[46]⟩] w fun e w' => e = .returned (.string ⟨(Lib.join (xs.map (·.data.toList)) [46]).toArray⟩) ∧ Below w.heap.size w w' :=
  Tryd.strings_Join bk o c xs ⟨#[46]⟩ w hc hbk (by omega) hcap (by show (Lib.join _ [46]).length ≤ _; omega)

end Go.Proofs.YtkcmgeoaipjhhaaDoor
