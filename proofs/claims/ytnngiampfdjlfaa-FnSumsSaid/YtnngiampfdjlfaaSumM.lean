/- A message that is added in two parts: plain laws; and the program's HashAdd from its beginning on. -/
import Derived.Test.YtnngiampfdjlfaaShaI3
namespace Go.Proofs.Ytnngiampfdjlfaa
open Go.ChangeShapes Go.WideShapes Go.ChangeAt Go.RowKit
set_option linter.unusedVariables false

def sumW (b : List UInt8) : List Int := allL startL b (b.length / 64)
def sumH (b : List UInt8) : List UInt8 := b.drop (64 * (b.length / 64))
theorem sumH_len (b : List UInt8) : (sumH b).length = b.length % 64 := by rw [sumH, List.length_drop]; omega
theorem sumW_len (b : List UInt8) : (sumW b).length = 8 := by rw [sumW, allL_len]; rfl
theorem sum_ok (b : List UInt8) (hb : b.length ≤ 1048576) : hOk (sumW b) (sumH b) b.length = true :=
  (hOk_iff _ _ _).2 ⟨allL_wd startL_ok _ _, by omega, by rw [sumH_len]; omega⟩
theorem sum_end (b : List UInt8) (hb : b.length ≤ 1048576) : hashEnd (sumW b) (sumH b) b.length = shaL b := by
  obtain ⟨h1, h2, h3⟩ := add_new b hb
  have h := end_new b hb
  rw [h1, h2, h3] at h
  exact h
theorem sum_more (a b : List UInt8) (h : a.length + b.length ≤ 1048576) :
    addW (sumW a) (sumH a) a.length b = sumW (a ++ b) ∧ addH (sumW a) (sumH a) a.length b = sumH (a ++ b) ∧ addN (sumW a) (sumH a) a.length b = ((a ++ b).length : Int) := by
  have ho : addOk (sumW a) (sumH a) a.length b := ⟨sum_ok a (by omega), by omega⟩
  have hd : (a ++ b).drop (64 * (a.length / 64)) = sumH a ++ b := by rw [List.drop_append_of_le_length (by omega)]; rfl
  have hl : (sumH a ++ b).length = a.length % 64 + b.length := by rw [List.length_append, sumH_len]
  have hq : (a ++ b).length / 64 = a.length / 64 + (sumH a ++ b).length / 64 := by rw [hl, List.length_append]; omega
  have eW : sumW (a ++ b) = allL startL (a ++ b) ((a ++ b).length / 64) := rfl
  have eH : sumH (a ++ b) = (a ++ b).drop (64 * ((a ++ b).length / 64)) := rfl
  refine ⟨?_, ?_, ?_⟩
  · rw [addW, if_pos ho, eW, hq, allL_drop, hd, allL_app startL a b _ (by omega)]
    rfl
  · rw [addH, if_pos ho, eH, hq, Nat.mul_add, ← List.drop_drop, hd]
  · rw [addN, if_pos ho, List.length_append]; omega

/-- HashAdd on a Hash that has taken a. -/
theorem I_More (A B : Option Addr) (n c m d : Nat) (a : List UInt8) (C : Option Addr) (p q : Nat) (b : List UInt8) (w : World) (r1 : Rd w A n c (iv (sumW a))) (r2 : Rd w B m d (bv (sumH a))) (r3 : Rd w C p q (bv b)) (h : a.length + b.length ≤ 1048576) :
    Calls Try.prog 13 #[hashV A n c B m d (a.length : Int), .slice C p q] w fun e w' => OutH w (sumW (a ++ b)) (sumH (a ++ b)) ((a ++ b).length : Int) e w' := by
  have h1 := r1.len
  have h2 := r2.len
  have h3 := r3.len
  rw [iv_len, sumW_len] at h1
  rw [bv_len, sumH_len] at h2
  rw [bv_len] at h3
  have k := I_HashAdd A B n c m d (sumW a) (sumH a) a.length C p q b w r1 r2 r3 (by omega) (by omega) (by omega)
  obtain ⟨e1, e2, e3⟩ := sum_more a b h
  rw [e1, e2, e3] at k
  exact k
theorem I_First (A B : Option Addr) (n c m d : Nat) (C : Option Addr) (p q : Nat) (b : List UInt8) (w : World) (r1 : Rd w A n c (iv startL)) (r2 : Rd w B m d (bv [])) (r3 : Rd w C p q (bv b)) (h : b.length ≤ 1048576) :
    Calls Try.prog 13 #[hashV A n c B m d 0, .slice C p q] w fun e w' => OutH w (sumW b) (sumH b) (b.length : Int) e w' := by
  have k := I_More A B n c m d [] C p q b w r1 r2 r3 (by simpa using h)
  simpa using k
theorem I_SumEnd (A B : Option Addr) (n c m d : Nat) (b : List UInt8) (w : World) (r1 : Rd w A n c (iv (sumW b))) (r2 : Rd w B m d (bv (sumH b))) (h : b.length ≤ 1048576) :
    Calls Try.prog 26 #[hashV A n c B m d (b.length : Int)] w fun e w' => Out 5 w (bv (shaL b)) e w' := by
  have h2 := r2.len
  rw [bv_len, sumH_len] at h2
  have k := I_HashEnd A B n c m d (sumW b) (sumH b) b.length w r1 r2 (by omega)
  rw [sum_end b h] at k
  exact k
theorem I_SumOk (A B : Option Addr) (n c m d : Nat) (b : List UInt8) (w : World) (r1 : Rd w A n c (iv (sumW b))) (r2 : Rd w B m d (bv (sumH b))) (h : b.length ≤ 1048576) :
    Calls Try.prog 25 #[hashV A n c B m d (b.length : Int)] w fun e w' => e = .returned (.bool true) ∧ Below w.heap.size w w' := by
  have k := I_HashOk A B n c m d (sumW b) (sumH b) b.length w r1 r2
  rw [sum_ok b h] at k
  exact k

end Go.Proofs.Ytnngiampfdjlfaa
