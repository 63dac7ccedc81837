/- The compression function of SHA-256 as a plain function, with the bounds that the walks need. No program in sight. -/
import Derived.Test.YtnngiampfdjlfaaShaM
import Derived.Test.YtnngiampfdjlfaaWords
import Derived.Test.YtnngiampfdjlfaaConst
namespace Go.Proofs.Ytnngiampfdjlfaa
open Go.RowKit

/-- The eight words of the running state. -/
structure Sx where
  a : Int
  b : Int
  c : Int
  d : Int
  e : Int
  f : Int
  g : Int
  z : Int
def chX (e f g : Int) : Int := bits .xor .i64 (bits .and .i64 e f) (bits .and .i64 (bits .xor .i64 e 4294967295) g)
def mjX (a b c : Int) : Int := bits .xor .i64 (bits .xor .i64 (bits .and .i64 a b) (bits .and .i64 a c)) (bits .and .i64 b c)
def bs1 (e : Int) : Int := bits .xor .i64 (bits .xor .i64 (rot e 6) (rot e 11)) (rot e 25)
def bs0 (a : Int) : Int := bits .xor .i64 (bits .xor .i64 (rot a 2) (rot a 13)) (rot a 22)
def t1X (s : Sx) (k w : Int) : Int := s.z + bs1 s.e + chX s.e s.f s.g + k + w
def t2X (s : Sx) : Int := bs0 s.a + mjX s.a s.b s.c
def stepX (s : Sx) (k w : Int) : Sx := ⟨(t1X s k w + t2X s) % 4294967296, s.a, s.b, s.c, (s.d + t1X s k w) % 4294967296, s.e, s.f, s.g⟩
def Sx.of (h : List Int) : Sx := ⟨h.getD 0 0, h.getD 1 0, h.getD 2 0, h.getD 3 0, h.getD 4 0, h.getD 5 0, h.getD 6 0, h.getD 7 0⟩
def Sx.list (s : Sx) : List Int := [s.a, s.b, s.c, s.d, s.e, s.f, s.g, s.z]
/-- The state behind k rounds. -/
def stA (h l : List Int) : Nat → Sx
  | 0 => Sx.of h
  | k + 1 => stepX (stA h l k) (kAt k) (l.getD k 0)
structure Sx.Ok (s : Sx) : Prop where
  a : 0 ≤ s.a ∧ s.a < 4294967296
  b : 0 ≤ s.b ∧ s.b < 4294967296
  c : 0 ≤ s.c ∧ s.c < 4294967296
  d : 0 ≤ s.d ∧ s.d < 4294967296
  e : 0 ≤ s.e ∧ s.e < 4294967296
  f : 0 ≤ s.f ∧ s.f < 4294967296
  g : 0 ≤ s.g ∧ s.g < 4294967296
  z : 0 ≤ s.z ∧ s.z < 4294967296
theorem getD_wd {l : List Int} (h : ∀ z ∈ l, Wd z) (k : Nat) : 0 ≤ l.getD k 0 ∧ l.getD k 0 < 4294967296 := by
  by_cases hk : k < l.length
  · have e : l[k]? = some (l.getD k 0) := by simp [List.getD, hk]
    exact h _ (List.mem_of_getElem? e)
  · simp [List.getD, List.getElem?_eq_none (show l.length ≤ k by omega)]
theorem Sx.of_ok {h : List Int} (hw : ∀ z ∈ h, Wd z) : (Sx.of h).Ok := ⟨getD_wd hw 0, getD_wd hw 1, getD_wd hw 2, getD_wd hw 3, getD_wd hw 4, getD_wd hw 5, getD_wd hw 6, getD_wd hw 7⟩
theorem Sx.list_wd {s : Sx} (ha : Wd s.a) (hb : Wd s.b) (hc : Wd s.c) (hd : Wd s.d) (he : Wd s.e) (hf : Wd s.f) (hg : Wd s.g) (hz : Wd s.z) : ∀ x ∈ s.list, Wd x := by
  intro x hx
  simp only [Sx.list, List.mem_cons, List.not_mem_nil, or_false] at hx
  rcases hx with rfl | rfl | rfl | rfl | rfl | rfl | rfl | rfl <;> assumption
theorem stepX_ok {s : Sx} (h : s.Ok) (k w : Int) : (stepX s k w).Ok := ⟨Wd.mod _, h.a, h.b, h.c, Wd.mod _, h.e, h.f, h.g⟩
theorem stA_ok {h : List Int} (hw : ∀ z ∈ h, Wd z) (l : List Int) (k : Nat) : (stA h l k).Ok := by
  induction k with
  | zero => exact Sx.of_ok hw
  | succ k ih => exact stepX_ok ih _ _
theorem bs1_wd (e : Int) : 0 ≤ bs1 e ∧ bs1 e < 4294967296 := ((Wd.rot _ _).xor (Wd.rot _ _)).xor (Wd.rot _ _)
theorem bs0_wd (e : Int) : 0 ≤ bs0 e ∧ bs0 e < 4294967296 := ((Wd.rot _ _).xor (Wd.rot _ _)).xor (Wd.rot _ _)
theorem mask_wd : Wd 4294967295 := ⟨by decide, by decide⟩
theorem chX_wd {e f g : Int} (he : Wd e) (hf : Wd f) (hg : Wd g) : 0 ≤ chX e f g ∧ chX e f g < 4294967296 := (he.and hf).xor ((he.xor mask_wd).and hg)
theorem mjX_wd {a b c : Int} (ha : Wd a) (hb : Wd b) (hc : Wd c) : 0 ≤ mjX a b c ∧ mjX a b c < 4294967296 := ((ha.and hb).xor (ha.and hc)).xor (hb.and hc)
theorem xor_comm64 (a b : Int) : bits .xor .i64 a b = bits .xor .i64 b a := by
  show IntKind.i64.wrap ((BitVec.ofInt 64 a ^^^ BitVec.ofInt 64 b).toNat : Int) = IntKind.i64.wrap ((BitVec.ofInt 64 b ^^^ BitVec.ofInt 64 a).toNat : Int)
  rw [BitVec.xor_comm]
/-- The sums at the end. -/
def addL (h l : List Int) : List Int := List.zipWith (fun x y => (x + y) % 4294967296) h l
/-- Compress of the program, on every list of ints and every block. -/
def compL (h : List Int) (blk : List UInt8) : List Int := if wordsB h = true ∧ blk.length = 64 then addL h (stA h (schL blk 64) 64).list else h
theorem addL_len (h : List Int) (s : Sx) (hh : h.length = 8) : (addL h s.list).length = 8 := by simp [addL, Sx.list, hh]
/-- The row that is written place by place. -/
def addR (h l : List Int) (k : Nat) : List Int := (addL h l).take k ++ h.drop k
theorem addR_zero (h l : List Int) : addR h l 0 = h := by simp [addR]
theorem addR_full (h : List Int) (s : Sx) (hh : h.length = 8) : addR h s.list 8 = addL h s.list := by
  rw [addR, List.take_of_length_le (by rw [addL_len h s hh]; exact Nat.le_refl _), List.drop_of_length_le (by omega), List.append_nil]
theorem addR_set (h : List Int) (s : Sx) (hh : h.length = 8) (k : Nat) (hk : k < 8) (x y : Int) (hx : h[k]? = some x) (hy : s.list[k]? = some y) : (addR h s.list k).set k ((x + y) % 4294967296) = addR h s.list (k + 1) := by
  have hl := addL_len h s hh
  have hz : (addL h s.list)[k]? = some ((x + y) % 4294967296) := by
    rw [addL, List.getElem?_zipWith, hx, hy]
  have hlen : ((addL h s.list).take k).length = k := by rw [List.length_take, hl]; omega
  rw [addR, addR, List.take_add_one, hz, List.set_append_right _ _ (by rw [hlen]; exact Nat.le_refl _), hlen, Nat.sub_self, List.drop_eq_getElem_cons (show k < h.length by omega)]
  simp only [List.set_cons_zero, Option.toList_some, List.append_assoc, List.cons_append, List.nil_append]
theorem addR_len (h : List Int) (s : Sx) (hh : h.length = 8) (k : Nat) (hk : k ≤ 8) : (addR h s.list k).length = 8 := by
  rw [addR, List.length_append, List.length_take, List.length_drop, addL_len h s hh]
  omega
theorem compL_len (h : List Int) (blk : List UInt8) : (compL h blk).length = h.length := by
  unfold compL
  split
  · rename_i hc
    have := ((wordsB_iff h).1 hc.1).2
    rw [addL_len _ _ this, this]
  · rfl
theorem compL_wd {h : List Int} (hw : wordsB h = true) (blk : List UInt8) : wordsB (compL h blk) = true := by
  unfold compL
  split
  · rename_i hc
    have h8 := ((wordsB_iff h).1 hw).2
    rw [wordsB_iff]
    refine ⟨fun z hz => ?_, addL_len _ _ h8⟩
    obtain ⟨i, hi⟩ := List.mem_iff_getElem?.1 hz
    rw [addL, List.getElem?_zipWith] at hi
    split at hi
    · injection hi with hi
      rw [← hi]
      exact Wd.mod _
    · cases hi
  · exact hw
/-- The words of the sums, as the walks find them. -/
theorem t1X_mod (s : Sx) (k w : Int) : ((s.z + bs1 s.e + chX s.e s.f s.g + k + w) % 4294967296 + t2X s % 4294967296) % 4294967296 = (t1X s k w + t2X s) % 4294967296 := by unfold t1X; omega
theorem schedL_get (blk : List UInt8) (h : blk.length = 64) (k : Nat) (hk : k < 64) : (schedL blk)[k]? = some ((schL blk 64).getD k 0) := by
  rw [schedL, if_pos h, schL_at blk 64 k hk]

end Go.Proofs.Ytnngiampfdjlfaa
