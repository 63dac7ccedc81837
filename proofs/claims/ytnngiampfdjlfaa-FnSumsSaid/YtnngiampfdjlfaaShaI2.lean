/- Contracts of the program's HashAdd (whole) and Sha. -/
import Derived.Test.YtnngiampfdjlfaaShaI
namespace Go.Proofs.Ytnngiampfdjlfaa
open Go.ChangeShapes Go.WideShapes Go.ChangeAt Go.RowKit
set_option linter.unusedVariables false

theorem I_HashAdd (A B : Option Addr) (n c m d : Nat) (l : List Int) (h : List UInt8) (k : Int) (C : Option Addr) (p q : Nat) (b : List UInt8) (w : World) (r1 : Rd w A n c (iv l)) (r2 : Rd w B m d (bv h)) (r3 : Rd w C p q (bv b)) (hm1 : m ≤ 4000000) (hp1 : p ≤ 4000000) (hn1 : n ≤ 8796093022208) :
    Calls Try.prog 13 #[hashV A n c B m d k, .slice C p q] w fun e w' => OutH w (addW l h k b) (addH l h k b) (addN l h k b) e w' := by
  have hl : b.length = p := by have := r3.len; rwa [bv_len] at this
  by_cases hok : hOk l h k = true
  · by_cases hf : 1048576 - k < (p : Int)
    · have hno : ¬ addOk l h k b := fun x => by have := x.2; omega
      rw [addW, if_neg hno, addH, if_neg hno, addN, if_neg hno]
      exact I_HashAdd_long A B n c m d l h k C p q b w r1 r2 r3 hm1 hp1 hn1 hok hf
    · have hyes : addOk l h k b := ⟨hok, by omega⟩
      rw [addW, if_pos hyes, addH, if_pos hyes, addN, if_pos hyes, hl]
      exact I_HashAdd_feed A B n c m d l h k C p q b w r1 r2 r3 hm1 hp1 hn1 hok hf
  · have hno : ¬ addOk l h k b := fun x => hok x.1
    rw [addW, if_neg hno, addH, if_neg hno, addN, if_neg hno]
    exact I_HashAdd_no A B n c m d l h k C p q b w r1 r2 r3 hm1 hp1 hn1 (by simpa using hok)

end Go.Proofs.Ytnngiampfdjlfaa
