/- Contracts over the struct Hash: eqHash, markHash, heldHash, toHash (package laws), HashNew (reference and program). -/
import Derived.Test.YtnngiampfdjlfaaConst
import Derived.Test.YtnngiampfdjlfaaEqByte
import Derived.Test.YtnngiampfdjlfaaEqInt
import Derived.Test.YtnngiampfdjlfaaMarkByte
import Derived.Test.YtnngiampfdjlfaaMarkInt
namespace Go.Proofs.Ytnngiampfdjlfaa
open Go.ChangeShapes Go.WideShapes Go.ChangeAt Go.RowKit
set_option linter.unusedVariables false

/-- Two rows of different element types never share a block: a write to the one leaves the other. -/
theorem Ow.other {w w' : World} {t t' : TypeId} {A B : Option Addr} {n c lo hi m d lo' hi' : Nat} {xs ys : List Value} (h : Ow w t A n c lo hi xs) (h' : Ow w t' B m d lo' hi' ys) (hne : t ≠ t')
    (hg : w.grownBy w' (Value.slice B m d).ownBlock) : Ow w' t A n c lo hi xs := by
  refine ⟨h.own.kept hg ?_, h.lt⟩
  cases hv : (Value.slice A n c).ownBlock with
  | none => exact .inl rfl
  | some k =>
    refine .inr fun e => ?_
    rcases h.own.2 with ⟨h0, _⟩ | ⟨g, cap, cur, h0, _, hh, _⟩
    · rw [h0] at hv; simp [Value.ownBlock] at hv
    · rcases h'.own.2 with ⟨h1, _⟩ | ⟨g', cap', cur', h1, _, hh', _⟩
      · rw [h1] at e; simp [Value.ownBlock] at e
      · rw [h0] at hv; rw [h1] at e
        simp [Value.ownBlock] at hv e
        subst hv; subst e
        rw [hh] at hh'
        injection hh' with hh'
        injection hh' with _ ht
        exact hne ht

/-- What may have turned: two rows; all else below the old size is as it was. -/
structure Grown2 (w w' : World) (r1 r2 : Option Nat) : Prop where
  os : w'.os = w.os
  tape : w'.tape = w.tape
  output : w'.output = w.output
  size : w.heap.size ≤ w'.heap.size
  block : ∀ k, k < w.heap.size → some k ≠ r1 → some k ≠ r2 → w'.heap[k]? = w.heap[k]?
theorem Ow.grown2 {w w' : World} {t : TypeId} {A : Option Addr} {n c lo hi : Nat} {xs : List Value} {r1 r2 : Option Nat} {lo' hi' : Nat} (h : Ow w t A n c lo hi xs) (hg : Grown2 w w' r1 r2)
    (hr : ∀ k, r1 = some k ∨ r2 = some k → lo' ≤ k ∧ k < hi') (hd : hi ≤ lo' ∨ hi' ≤ lo) : Ow w' t A n c lo hi xs := by
  refine ⟨⟨h.own.1, ?_⟩, h.lt⟩
  rcases h.own.2 with h0 | ⟨g, cap, cur, hv, hgl, hh, r⟩
  · exact .inl h0
  · refine .inr ⟨g, cap, cur, hv, hgl, ?_, r⟩
    have h1 : g < hi := h.lt g (by rw [hv]; rfl)
    rw [hg.block g (Array.getElem?_eq_some_iff.1 hh).1 (fun e => by have := hr g (.inl e.symm); omega) (fun e => by have := hr g (.inr e.symm); omega)]
    exact hh
theorem grown2_cell {w w' : World} {r1 r2 : Option Nat} {lo' hi' g o : Nat} {v : Value} (hg : Grown2 w w' r1 r2) (hr : ∀ k, r1 = some k ∨ r2 = some k → lo' ≤ k ∧ k < hi') (hd : g < lo' ∨ hi' ≤ g) (hc : w.cell? ⟨g, o, none⟩ = some v) : w'.cell? ⟨g, o, none⟩ = some v :=
  (World.cell?_of_block (hg.block g (World.block_lt_of_cell? w _ hc) (fun e => by have := hr g (.inl e.symm); omega) (fun e => by have := hr g (.inr e.symm); omega))).trans hc
theorem grown2_next {w W w1 : World} {r1 r2 : Option Nat} {lo' hi' : Nat} (h : Below w.heap.size w W) (hg : Grown2 W w1 r1 r2) (hr : ∀ k, r1 = some k ∨ r2 = some k → lo' ≤ k ∧ k < hi') (hlo : w.heap.size ≤ lo') : Below w.heap.size w w1 :=
  h.trans ⟨hg.os, hg.tape, hg.output, hg.size, fun k hk => hg.block k (by have := h.size; omega) (fun e => by have := hr k (.inl e.symm); omega) (fun e => by have := hr k (.inr e.symm); omega)⟩

/-- A box of three cells in block g. -/
structure Bx (w : World) (g : Nat) (u v x : Value) : Prop where
  c0 : w.cell? ⟨g, 0, none⟩ = some u
  c1 : w.cell? ⟨g, 1, none⟩ = some v
  c2 : w.cell? ⟨g, 2, none⟩ = some x
theorem Bx.new (w : World) (t : TypeId) (u v x : Value) : Bx (w.alloc (.cells #[u, v, x] t)) w.heap.size u v x := ⟨by simp [go_sem], by simp [go_sem], by simp [go_sem]⟩
theorem Bx.below {w w' : World} {g X : Nat} {u v x : Value} (h : Bx w g u v x) (hb : Below X w w') (hX : g < X) : Bx w' g u v x :=
  ⟨(hb.cell (p := ⟨g, 0, none⟩) hX).trans h.c0, (hb.cell (p := ⟨g, 1, none⟩) hX).trans h.c1, (hb.cell (p := ⟨g, 2, none⟩) hX).trans h.c2⟩
theorem Bx.grown2 {w w' : World} {r1 r2 : Option Nat} {lo' hi' g : Nat} {u v x : Value} (h : Bx w g u v x) (hg : Grown2 w w' r1 r2) (hr : ∀ k, r1 = some k ∨ r2 = some k → lo' ≤ k ∧ k < hi') (hd : g < lo' ∨ hi' ≤ g) : Bx w' g u v x :=
  ⟨grown2_cell hg hr hd h.c0, grown2_cell hg hr hd h.c1, grown2_cell hg hr hd h.c2⟩
theorem grown2_of {w w' : World} {r : Option Nat} (h : w.grownBy w' r) : Grown2 w w' r none := ⟨h.os, h.tape, h.output, h.size, fun k hk h1 _ => h.block k hk h1⟩
theorem rng_one {r : Option Nat} {lo hi : Nat} (h : ∀ k, r = some k → lo ≤ k ∧ k < hi) : ∀ k, r = some k ∨ (none : Option Nat) = some k → lo ≤ k ∧ k < hi := fun k hk => hk.elim (h k) (fun e => by cases e)

/-- A Hash: its words, its held bytes, its count. -/
abbrev hashV (A : Option Addr) (n c : Nat) (B : Option Addr) (m d : Nat) (k : Int) : Value := .agg #[.slice A n c, .slice B m d, .int .i64 k]
/-- Both slices of a Hash are rows of the call's own. -/
structure OwH (w : World) (A : Option Addr) (n c : Nat) (B : Option Addr) (m d : Nat) (lo hi : Nat) (l : List Int) (h : List UInt8) : Prop where
  ints : Ow w 3 A n c lo hi (iv l)
  bytes : Ow w 5 B m d lo hi (bv h)
theorem OwH.below {w w' : World} {A B : Option Addr} {n c m d lo hi : Nat} {l : List Int} {h : List UInt8} {X : Nat} (o : OwH w A n c B m d lo hi l h) (hb : Below X w w') (hX : hi ≤ X) : OwH w' A n c B m d lo hi l h :=
  ⟨o.ints.below hb hX, o.bytes.below hb hX⟩
theorem OwH.less {w : World} {A B : Option Addr} {n c m d lo lo' hi : Nat} {l : List Int} {h : List UInt8} (o : OwH w A n c B m d lo hi l h) (hX : lo' ≤ lo) : OwH w A n c B m d lo' hi l h :=
  ⟨o.ints.less hX, o.bytes.less hX⟩
theorem OwH.rng {w : World} {A B : Option Addr} {n c m d lo hi : Nat} {l : List Int} {h : List UInt8} (o : OwH w A n c B m d lo hi l h) : ∀ k, (Value.slice A n c).ownBlock = some k ∨ (Value.slice B m d).ownBlock = some k → lo ≤ k ∧ k < hi :=
  fun k hk => hk.elim (o.ints.rng k) (o.bytes.rng k)
theorem OwH.grown2 {w w' : World} {A B : Option Addr} {n c m d lo hi lo' hi' : Nat} {l : List Int} {h : List UInt8} {r1 r2 : Option Nat} (o : OwH w A n c B m d lo hi l h) (hg : Grown2 w w' r1 r2)
    (hr : ∀ k, r1 = some k ∨ r2 = some k → lo' ≤ k ∧ k < hi') (hd : hi ≤ lo' ∨ hi' ≤ lo) : OwH w' A n c B m d lo hi l h := ⟨o.ints.grown2 hg hr hd, o.bytes.grown2 hg hr hd⟩
/-- A fresh Hash. -/
def OutH (w : World) (l : List Int) (h : List UInt8) (k : Int) (e : Ending) (w' : World) : Prop :=
  ∃ A n c B m d, e = .returned (.agg #[.slice A n c, .slice B m d, .int .i64 k]) ∧ OwH w' A n c B m d w.heap.size w'.heap.size l h ∧ Below w.heap.size w w'

/-- The nil slice owns nothing. -/
theorem Ow.nil_ (w : World) (t : TypeId) (lo hi : Nat) : Ow w t none 0 0 lo hi [] := ⟨World.ownsRow_nil _ _ _ _, fun k hk => by simp [Value.ownBlock] at hk⟩

theorem S_HashNew (w : World) : Calls Try.prog 59 #[] w fun e w' => OutH w startL [] 0 e w' := by
  have B0 := balloc (Below.refl _ w) (.cells #[.slice none 0 0, .slice none 0 0, .int .i64 0] 31)
  go_enter Try.func59, Try.ntmps59
  go_wp2_with fail
  refine (S_Start _).mono ?_
  rintro e W1 ⟨A1, n1, c1, rfl, o1, b1⟩
  have B1 := bnext B0 b1
  have hc : ∀ o, W1.cell? ⟨w.heap.size, o, none⟩ = #[Value.slice none 0 0, .slice none 0 0, .int .i64 0][o]? := fun o => (b1.cell (by simp)).trans (by simp [go_sem])
  have hf : ∀ o, W1.frozen? ⟨w.heap.size, o, none⟩ = false := fun o => (b1.frozen (by simp)).trans (by simp [go_sem])
  have hc0 := hc 0
  have hc1 := hc 1
  have hc2 := hc 2
  have hs : w.heap.size < W1.heap.size := by have := b1.size; simp at this; omega
  clear hc
  simp at hc0 hc1 hc2
  go_wp2_with fail
  refine bodyPost_ret (v := .agg #[.slice A1 n1 c1, .slice none 0 0, .int .i64 0]) (by simp [results, Try.results59, go_sem, hc0, hc1, hc2]) rfl ⟨A1, n1, c1, none, 0, 0, rfl, ⟨?_, Ow.nil_ _ _ _ _⟩, ?_⟩
  · have hlt : w.heap.size < (w.alloc (.cells #[.slice none 0 0, .slice none 0 0, .int .i64 0] 31)).heap.size := by simp
    exact ((((o1.set_ (a := ⟨w.heap.size, 0, none⟩) hlt _).set_ (a := ⟨w.heap.size, 1, none⟩) hlt _).set_ (a := ⟨w.heap.size, 2, none⟩) hlt _).less (by simp)).more (by simp)
  · repeat (first | exact B1 | refine Below.setCell ?_ (by simp) _)

theorem I_HashNew (w : World) : Calls Try.prog 21 #[] w fun e w' => OutH w startL [] 0 e w' := by
  have B0 := balloc (Below.refl _ w) (.cells #[.slice none 0 0, .slice none 0 0, .int .i64 0] 31)
  go_enter Try.func21, Try.ntmps21
  go_wp2_with fail
  refine (I_Start _).mono ?_
  rintro e W1 ⟨A1, n1, c1, rfl, o1, b1⟩
  have B1 := bnext B0 b1
  have hc : ∀ o, W1.cell? ⟨w.heap.size, o, none⟩ = #[Value.slice none 0 0, .slice none 0 0, .int .i64 0][o]? := fun o => (b1.cell (by simp)).trans (by simp [go_sem])
  have hf : ∀ o, W1.frozen? ⟨w.heap.size, o, none⟩ = false := fun o => (b1.frozen (by simp)).trans (by simp [go_sem])
  have hc0 := hc 0
  have hc1 := hc 1
  have hc2 := hc 2
  have hs : w.heap.size < W1.heap.size := by have := b1.size; simp at this; omega
  clear hc
  simp at hc0 hc1 hc2
  go_wp2_with fail
  refine bodyPost_ret (v := .agg #[.slice A1 n1 c1, .slice none 0 0, .int .i64 0]) (by simp [results, Try.results21, go_sem, hc0, hc1, hc2]) rfl ⟨A1, n1, c1, none, 0, 0, rfl, ⟨?_, Ow.nil_ _ _ _ _⟩, ?_⟩
  · have hlt : w.heap.size < (w.alloc (.cells #[.slice none 0 0, .slice none 0 0, .int .i64 0] 31)).heap.size := by simp
    exact ((((o1.set_ (a := ⟨w.heap.size, 0, none⟩) hlt _).set_ (a := ⟨w.heap.size, 1, none⟩) hlt _).set_ (a := ⟨w.heap.size, 2, none⟩) hlt _).less (by simp)).more (by simp)
  · repeat (first | exact B1 | refine Below.setCell ?_ (by simp) _)

theorem L_eqHash_same (A A' B B' : Option Addr) (n n' c c' m m' d d' : Nat) (l : List Int) (h : List UInt8) (k : Int) (w : World) (r1 : Rd w A n c (iv l)) (r2 : Rd w B m d (bv h)) (r1' : Rd w A' n' c' (iv l)) (r2' : Rd w B' m' d' (bv h)) :
    Calls Try.prog 14 #[.agg #[.slice A n c, .slice B m d, .int .i64 k], .agg #[.slice A' n' c', .slice B' m' d', .int .i64 k]] w fun e w' => e = .returned (.bool true) ∧ Below w.heap.size w w' := by
  have B0 := balloc (balloc (Below.refl _ w) (.cells #[.slice A n c, .slice B m d, .int .i64 k] 31)) (.cells #[.slice A' n' c', .slice B' m' d', .int .i64 k] 31)
  have R := Lib.hid (And.intro (And.intro r1 r2) (And.intro r1' r2'))
  clear r1 r2 r1' r2'
  go_enter Try.func14, Try.ntmps14
  go_wp2_with fail
  refine (L_eqIntS_same _ _ _ _ _ _ l _ (R.out.1.1.below B0 (Nat.le_refl _)) (R.out.2.1.below B0 (Nat.le_refl _))).mono ?_
  rintro e W1 ⟨rfl, b1⟩
  have B1 := bnext B0 b1
  have hc : ∀ g o, g ≤ w.heap.size + 1 → W1.cell? ⟨g, o, none⟩ = ((w.alloc (.cells #[.slice A n c, .slice B m d, .int .i64 k] 31)).alloc (.cells #[.slice A' n' c', .slice B' m' d', .int .i64 k] 31)).cell? ⟨g, o, none⟩ := fun g o hg => b1.cell (by simp; omega)
  have c1 : W1.cell? ⟨w.heap.size, 1, none⟩ = some (.slice B m d) := (hc _ 1 (by omega)).trans (by simp [go_sem])
  have c2 : W1.cell? ⟨w.heap.size, 2, none⟩ = some (.int .i64 k) := (hc _ 2 (by omega)).trans (by simp [go_sem])
  have d1 : W1.cell? ⟨w.heap.size + 1, 1, none⟩ = some (.slice B' m' d') := (hc _ 1 (by omega)).trans (by simp [go_sem])
  have d2 : W1.cell? ⟨w.heap.size + 1, 2, none⟩ = some (.int .i64 k) := (hc _ 2 (by omega)).trans (by simp [go_sem])
  have hs : w.heap.size + 1 < W1.heap.size := by have := b1.size; simp at this; omega
  clear hc
  go_wp2_with fail
  refine (L_eqByteS_same _ _ _ _ _ _ h _ (R.out.1.2.below B1 (Nat.le_refl _)) (R.out.2.2.below B1 (Nat.le_refl _))).mono ?_
  rintro e W2 ⟨rfl, b2⟩
  have B2 := bnext B1 b2
  have c2' : W2.cell? ⟨w.heap.size, 2, none⟩ = some (.int .i64 k) := (b2.cell (by show w.heap.size < _; omega)).trans c2
  have d2' : W2.cell? ⟨w.heap.size + 1, 2, none⟩ = some (.int .i64 k) := (b2.cell (by show w.heap.size + 1 < _; omega)).trans d2
  go_wp2_with fail
  go_ret
  exact ⟨rfl, B2⟩

theorem L_markHash (A B : Option Addr) (n c m d lo hi : Nat) (l : List Int) (h : List UInt8) (N : Int) (k : Nat) (w : World) (o : OwH w A n c B m d lo hi l h) (hh : hi ≤ w.heap.size) (hk : k + n + m ≤ 4611686018427387904) :
    Calls Try.prog 15 #[.agg #[.slice A n c, .slice B m d, .int .i64 N], .int .i64 (k : Int)] w fun e w' => e = .returned (.int .i64 ((k + n + m : Nat) : Int)) ∧
      OwH w' A n c B m d lo hi (marksIntS k n) (marksByteS (k + n) m) ∧ Grown2 w w' (Value.slice A n c).ownBlock (Value.slice B m d).ownBlock := by
  have O := Lib.hid (o.below ((Below.refl _ w).alloc (Nat.le_refl _) (.cells #[.slice A n c, .slice B m d, .int .i64 N] 31)) hh)
  have HR := Lib.hid o.rng
  clear o
  go_enter Try.func15, Try.ntmps15
  go_wp2_with fail
  refine (L_markIntS _ _ _ _ _ _ k _ O.out.ints (by omega)).mono ?_
  rintro e W1 ⟨rfl, p1, g1⟩
  have p2 := O.out.bytes.other O.out.ints (by decide) g1
  have hc1 : W1.cell? ⟨w.heap.size, 1, none⟩ = some (.slice B m d) := g1.cell (by simp [go_sem]) (fun e => by have := HR.out _ (.inl e.symm); simp at this; omega)
  go_wp2_with fail
  refine (L_markByteS _ _ _ _ _ _ (k + n) _ p2 (by omega)).mono ?_
  rintro e W2 ⟨rfl, q2, g2⟩
  have q1 := p1.other p2 (by decide) g2
  go_wp2_with fail
  go_ret
  refine ⟨rfl, ⟨q1, q2⟩, g2.os.trans g1.os, g2.tape.trans g1.tape, g2.output.trans g1.output, ?_, fun x hx h1 h2 => ?_⟩
  · have := g1.size; have := g2.size; simp at *; omega
  · rw [g2.block x (by have := g1.size; simp at this; omega) h2, g1.block x (by simp; omega) h1]
    exact Below.heap_alloc w _ x hx

theorem L_heldHash (A B : Option Addr) (n c m d : Nat) (N : Int) (k : Nat) (w : World) (r1 : Rd w A n c (iv (marksIntS k n))) (r2 : Rd w B m d (bv (marksByteS (k + n) m))) (hk : k + n + m ≤ 4611686018427387904) :
    Calls Try.prog 17 #[.agg #[.slice A n c, .slice B m d, .int .i64 N], .int .i64 (k : Int)] w fun e w' => e = .returned (.int .i64 ((k + n + m : Nat) : Int)) ∧ Below w.heap.size w w' := by
  have R := Lib.hid (And.intro (r1.alloc (.cells #[.slice A n c, .slice B m d, .int .i64 N] 31)) (r2.alloc (.cells #[.slice A n c, .slice B m d, .int .i64 N] 31)))
  clear r1 r2
  go_enter Try.func17, Try.ntmps17
  go_wp2_with fail
  refine (L_heldIntS _ _ _ k _ R.out.1 (by omega)).mono ?_
  rintro e W1 ⟨rfl, rfl⟩
  go_wp2_with fail
  refine (L_heldByteS _ _ _ (k + n) _ R.out.2 (by omega)).mono ?_
  rintro e W2 ⟨rfl, rfl⟩
  go_wp2_with fail
  go_ret
  exact ⟨rfl, balloc (Below.refl _ _) _⟩

end Go.Proofs.Ytnngiampfdjlfaa
