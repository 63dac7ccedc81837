/- Words for the region of the reference's HashAdd in which two rows and a box are made in an open order. -/
import Derived.Test.YtnngiampfdjlfaaShaI2
import Derived.Test.YtnngiampfdjlfaaHashS
import Derived.Test.YtnngiampfdjlfaaStepX
namespace Go.Proofs.Ytnngiampfdjlfaa
open Go.ChangeShapes Go.WideShapes Go.ChangeAt Go.RowKit
set_option linter.unusedVariables false

/-- A row of the call's own, made since V, as it stands in X. -/
def Ro (V X : World) (t : TypeId) (A : Option Addr) (n c : Nat) (xs : List Value) : Prop := Ow X t A n c V.heap.size X.heap.size xs
/-- A box of three cells of type T in block g, made since V. -/
structure Bo (V X : World) (T : TypeId) (g : Nat) (u v x : Value) : Prop where
  lo : V.heap.size ≤ g
  blk : X.heap[g]? = some (.cells #[u, v, x] T (0, 0))

section
variable {V X Y : World} {t t' T : TypeId} {A B : Option Addr} {n c m d g : Nat} {xs ys : List Value} {u v x : Value}
theorem Ro.fresh (h : Below V.heap.size V Y) (t : TypeId) : Ro V (Y.alloc (.cells #[] t)) t (some ⟨Y.heap.size, 0, none⟩) 0 0 [] :=
  (Ow.of_own (own_empty Y t)).less h.size
theorem Ro.alloc (h : Ro V X t A n c xs) (o : Obj) : Ro V (X.alloc o) t A n c xs :=
  Ow.more (Ow.below h ((Below.refl _ _).alloc (Nat.le_refl _) _) (Nat.le_refl _)) (by simp)
theorem Ro.other (h : Ro V X t A n c xs) (h' : Ro V X t' B m d ys) (hne : t ≠ t') (hg : X.grownBy Y (Value.slice B m d).ownBlock) : Ro V Y t A n c xs :=
  Ow.more (Ow.other h h' hne hg) hg.size
theorem Ro.of (h : Y.ownsRow V.heap.size t 1 (.slice A n c) n xs) : Ro V Y t A n c xs := Ow.of_own h
theorem Bo.fresh (h : Below V.heap.size V Y) (T : TypeId) (u v x : Value) : Bo V (Y.alloc (.cells #[u, v, x] T)) T Y.heap.size u v x :=
  ⟨h.size, heap_alloc_new Y _⟩
theorem Bo.lt (h : Bo V X T g u v x) : g < X.heap.size := (Array.getElem?_eq_some_iff.1 h.blk).1
theorem Bo.alloc (h : Bo V X T g u v x) (o : Obj) : Bo V (X.alloc o) T g u v x :=
  ⟨h.lo, (Below.heap_alloc X o g h.lt).trans h.blk⟩
theorem Bo.other (h : Bo V X T g u v x) (h' : Ro V X t' B m d ys) (hne : T ≠ t') (hg : X.grownBy Y (Value.slice B m d).ownBlock) : Bo V Y T g u v x := by
  refine ⟨h.lo, (hg.block g h.lt fun e => ?_).trans h.blk⟩
  rcases h'.own.2 with ⟨h1, _⟩ | ⟨g', cap', cur', h1, _, hh', _⟩
  · rw [h1] at e; simp [Value.ownBlock] at e
  · rw [h1] at e
    simp [Value.ownBlock] at e
    subst e
    have := h.blk.symm.trans hh'
    injection this with this
    injection this with _ ht
    exact hne ht
theorem Ro.drew (h : Ro V X t A n c xs) : Ro V X.drew t A n c xs := ⟨h.own, h.lt⟩
theorem Bo.drew (h : Bo V X T g u v x) : Bo V X.drew T g u v x := ⟨h.lo, h.blk⟩
theorem Ro.fresh' (h : Below V.heap.size V Y) (t : TypeId) (hg : Y.heap.size = g) : Ro V (Y.alloc (.cells #[] t)) t (some ⟨g, 0, none⟩) 0 0 [] := hg ▸ Ro.fresh h t
theorem Bo.fresh' (h : Below V.heap.size V Y) (T : TypeId) (u v x : Value) (hg : Y.heap.size = g) : Bo V (Y.alloc (.cells #[u, v, x] T)) T g u v x := hg ▸ Bo.fresh h T u v x
theorem Bo.ne (h : Bo V X T g u v x) (h' : Ro V X t A n c xs) (hne : T ≠ t) : ∀ b, (Value.slice A n c).ownBlock = some b → b ≠ g := by
  intro b hb e
  subst e
  rcases h'.own.2 with ⟨h1, _⟩ | ⟨g', cap', cur', h1, _, hh', _⟩
  · rw [h1] at hb; simp [Value.ownBlock] at hb
  · rw [h1] at hb
    simp [Value.ownBlock] at hb
    subst hb
    have := h.blk.symm.trans hh'
    injection this with this
    injection this with _ ht
    exact hne ht
theorem Bo.bx (h : Bo V X T g u v x) : Wx X g u v x := by
  refine ⟨⟨?_, ?_, ?_⟩, fun o => ?_⟩
  · simp [World.cell?, h.blk]
  · simp [World.cell?, h.blk]
  · simp [World.cell?, h.blk]
  · simp [World.frozen?, h.blk]
theorem Ro.set_ne (h : Ro V X t A n c xs) {a : Addr} (ha : ∀ b, (Value.slice A n c).ownBlock = some b → b ≠ a.block) (y : Value) : Ro V (X.setCell a y) t A n c xs :=
  ⟨ownsRow_setCell_other h.own (fun e => ha _ e rfl) y, fun k hk => by simpa using h.lt k hk⟩
theorem Wx.grown {W : World} {row : Option Nat} (h : Wx W g u v x) (hg : W.grownBy Y row) (hne : row ≠ some g) (hlt : g < W.heap.size) : Wx Y g u v x := by
  have e : ∀ o, Y.heap[(⟨g, o, none⟩ : Addr).block]? = W.heap[(⟨g, o, none⟩ : Addr).block]? := fun o => hg.block g hlt fun e => hne e.symm
  exact ⟨⟨(World.cell?_of_block (e 0)).trans h.bx.c0, (World.cell?_of_block (e 1)).trans h.bx.c1, (World.cell?_of_block (e 2)).trans h.bx.c2⟩, fun o => (World.frozen?_of_block (e o)).trans (h.fr o)⟩
theorem Wx.cells3 (h : Wx X g u v x) : X.cell? ⟨g, 0, none⟩ = some u ∧ X.cell? ⟨g, 1, none⟩ = some v ∧ X.cell? ⟨g, 2, none⟩ = some x ∧ X.frozen? ⟨g, 0, none⟩ = false ∧ X.frozen? ⟨g, 1, none⟩ = false ∧ X.frozen? ⟨g, 2, none⟩ = false :=
  ⟨h.bx.c0, h.bx.c1, h.bx.c2, h.fr 0, h.fr 1, h.fr 2⟩
theorem Wx.lt (h : Wx X g u v x) : g < X.heap.size := World.block_lt_of_cell? X _ h.bx.c0
theorem Wx.set0 {a : Value} (h : Wx X g u v x) : Wx (X.setCell ⟨g, 0, none⟩ a) g a v x := by
  obtain ⟨⟨h0, h1, h2⟩, hf⟩ := h
  exact ⟨⟨by simp [go_sem, h0], by simp [go_sem, h1], by simp [go_sem, h2]⟩, fun o => by simp [go_sem, hf]⟩
theorem Wx.set1 {a : Value} (h : Wx X g u v x) : Wx (X.setCell ⟨g, 1, none⟩ a) g u a x := by
  obtain ⟨⟨h0, h1, h2⟩, hf⟩ := h
  exact ⟨⟨by simp [go_sem, h0], by simp [go_sem, h1], by simp [go_sem, h2]⟩, fun o => by simp [go_sem, hf]⟩
theorem Wx.set2 {a : Value} (h : Wx X g u v x) : Wx (X.setCell ⟨g, 2, none⟩ a) g u v a := by
  obtain ⟨⟨h0, h1, h2⟩, hf⟩ := h
  exact ⟨⟨by simp [go_sem, h0], by simp [go_sem, h1], by simp [go_sem, h2]⟩, fun o => by simp [go_sem, hf]⟩
theorem Wx.far {a : Value} {p : Addr} (h : Wx X g u v x) (hp : p.block ≠ g) : Wx (X.setCell p a) g u v x :=
  ⟨h.bx.set_ p a hp, fun o => by
    have := h.fr o
    have e : (X.setCell p a).heap[g]? = X.heap[g]? := heap_setCell_other X p g a (fun e => hp e.symm)
    rw [← this]; exact World.frozen?_of_block (a := ⟨g, o, none⟩) e⟩
theorem grown_below_of {W W' : World} (h : Below W.heap.size W W') (row : Option Nat) : W.grownBy W' row := ⟨h.os, h.tape, h.output, h.size, fun k hk _ => h.block k hk⟩
theorem grown_set {W : World} (h : W.grownBy X (some g)) (o : Nat) (y : Value) : W.grownBy (X.setCell ⟨g, o, none⟩ y) (some g) :=
  ⟨h.os, h.tape, h.output, by simpa using h.size, fun k hk hne => (heap_setCell_other X ⟨g, o, none⟩ k y (fun e => hne (by rw [e]))).trans (h.block k hk hne)⟩
theorem grown_more {W : World} {row : Option Nat} (h : W.grownBy X row) (b : Below W.heap.size X Y) : W.grownBy Y row :=
  ⟨b.os.trans h.os, b.tape.trans h.tape, b.output.trans h.output, Nat.le_trans h.size b.size, fun k hk hne => (b.block k hk).trans (h.block k hk hne)⟩
theorem Ro.kept (h : Ro V X t A n c xs) (hg : X.grownBy Y (some g)) (hne : ∀ b, (Value.slice A n c).ownBlock = some b → b ≠ g) : Ro V Y t A n c xs :=
  Ow.more ⟨h.own.kept hg (by
    cases hv : (Value.slice A n c).ownBlock with
    | none => exact .inl rfl
    | some k => exact .inr fun e => hne k hv (Option.some.inj e)), h.lt⟩ hg.size
theorem Wx.set3 {a b y : Value} (h : Wx X g u v x) : Wx (((X.setCell ⟨g, 0, none⟩ a).setCell ⟨g, 1, none⟩ b).setCell ⟨g, 2, none⟩ y) g a b y := by
  obtain ⟨⟨h0, h1, h2⟩, hf⟩ := h
  exact ⟨⟨by simp [go_sem, h0], by simp [go_sem, h1], by simp [go_sem, h2]⟩, fun o => by simp [go_sem, hf]⟩
end

/-- append onto a fresh empty row of ints, at a step of a region that draws. -/
theorem step_fresh_ints (V w : World) {ops : Array Oper} {o : Oper} {a : Act} {K : Act → World → Prop} {Q : Exit → Act → World → Prop} {E : Prop} (hgd : o.guard = none) (s x : Operand)
    (ho : o.op = .call { callee := .builtin .append, args := #[s, x], argTypes := #[27, 27] })
    (A0 : Option Addr) (c0 : Nat) (hs : a.eval s = .slice A0 0 c0)
    (A : Option Addr) (m c : Nat) (news : List Int) (hx : a.eval x = .slice A m c) (hr : Rd V A m c (iv news)) (hnm : 0 + m ≤ 70368744177664 / 8)
    (hb : Below V.heap.size V w) (hro : Ro V w 3 A0 0 c0 [])
    (h : ∀ A' c' w', Ro V w' 3 A' m c' (iv news) → Below V.heap.size V w' → (∀ t B p q ys, Ro V w t B p q ys → t ≠ 3 → Ro V w' t B p q ys) →
      (∀ T g u v x, Bo V w T g u v x → T ≠ 3 → Bo V w' T g u v x) → K (a.put o.dst (.slice A' m c')) w') :
    if Region.wanted o (yielded ops a.tmps) = true then Oper.wp Try.prog o a w K Q else E := by
  have hw : Region.wanted o (yielded ops a.tmps) = true := by simp [Region.wanted, hgd]
  rw [if_pos hw]
  obtain ⟨i0, hi0, hz0, hz1, hz2⟩ := info_parts info_i64
  refine wp_append_rd_g w s x 27 ho V.heap.size 3 i0 (.int .i64 0) 8 Try.underlying27 hi0 hz0 hz1 hz2 rfl A0 0 c0 _ hs hro.own A m c _ hx (hr.below hb (Nat.le_refl _)) (iv_one _) (by unfold maxLen; omega) (by omega) hb.size fun A' c' w' h2 h3 => ?_
  rw [Nat.zero_add] at h2 ⊢
  exact h A' c' w' (Ro.of h2.out) (hb.trans (grown_below h3 (fun k hk => (hro.own.lt k hk).1) hb.size)) (fun t B p q ys hy hne => hy.other hro hne h3) (fun T g u v x hy hne => hy.other hro hne h3)
/-- append onto a fresh empty row of bytes, at a step of a region that draws. -/
theorem step_fresh_bytes (V w : World) {ops : Array Oper} {o : Oper} {a : Act} {K : Act → World → Prop} {Q : Exit → Act → World → Prop} {E : Prop} (hgd : o.guard = none) (s x : Operand)
    (ho : o.op = .call { callee := .builtin .append, args := #[s, x], argTypes := #[22, 22] })
    (A0 : Option Addr) (c0 : Nat) (hs : a.eval s = .slice A0 0 c0)
    (A : Option Addr) (m c : Nat) (news : List UInt8) (hx : a.eval x = .slice A m c) (hr : Rd V A m c (bv news)) (hnm : 0 + m ≤ 70368744177664)
    (hb : Below V.heap.size V w) (hro : Ro V w 5 A0 0 c0 [])
    (h : ∀ A' c' w', Ro V w' 5 A' m c' (bv news) → Below V.heap.size V w' → (∀ t B p q ys, Ro V w t B p q ys → t ≠ 5 → Ro V w' t B p q ys) →
      (∀ T g u v x, Bo V w T g u v x → T ≠ 5 → Bo V w' T g u v x) → K (a.put o.dst (.slice A' m c')) w') :
    if Region.wanted o (yielded ops a.tmps) = true then Oper.wp Try.prog o a w K Q else E := by
  have hw : Region.wanted o (yielded ops a.tmps) = true := by simp [Region.wanted, hgd]
  rw [if_pos hw]
  obtain ⟨i0, hi0, hz0, hz1, hz2⟩ := info_parts info_u8
  refine wp_append_rd_g w s x 22 ho V.heap.size 5 i0 (.int .u8 0) 1 Try.underlying22 hi0 hz0 hz1 hz2 rfl A0 0 c0 _ hs hro.own A m c _ hx (hr.below hb (Nat.le_refl _)) (bv_one _) (by unfold maxLen; omega) (by omega) hb.size fun A' c' w' h2 h3 => ?_
  rw [Nat.zero_add] at h2 ⊢
  exact h A' c' w' (Ro.of h2.out) (hb.trans (grown_below h3 (fun k hk => (hro.own.lt k hk).1) hb.size)) (fun t B p q ys hy hne => hy.other hro hne h3) (fun T g u v x hy hne => hy.other hro hne h3)

/-- What the first statement of the reference's HashAdd leaves: a pointer to a box that holds two fresh rows and the count. -/
def HaR (V : World) (n m : Nat) (l : List Int) (h : List UInt8) (k : Int) (s : Value) (wx : World) : Prop :=
  ∃ g A c B d, s = .pointer (some ⟨g, 0, none⟩) ∧ Wx wx g (.slice A n c) (.slice B m d) (.int .i64 k) ∧ V.heap.size ≤ g ∧ g < wx.heap.size ∧
    (∀ b, (Value.slice A n c).ownBlock = some b → b ≠ g) ∧ (∀ b, (Value.slice B m d).ownBlock = some b → b ≠ g) ∧
    Ro V wx 3 A n c (iv l) ∧ Ro V wx 5 B m d (bv h) ∧ Below V.heap.size V wx
theorem HaR.new {V X : World} {n m c d : Nat} {A B : Option Addr} {l : List Int} {h : List UInt8} {k : Int} {T : TypeId} (ri : Ro V X 3 A n c (iv l)) (rb : Ro V X 5 B m d (bv h)) (b : Below V.heap.size V X)
    (h1 : T ≠ 3) (h2 : T ≠ 5) : HaR V n m l h k (.pointer (some ⟨X.heap.size, 0, none⟩)) (X.alloc (.cells #[.slice A n c, .slice B m d, .int .i64 k] T)) := by
  have bo := Bo.fresh b T (.slice A n c) (.slice B m d) (.int .i64 k)
  exact ⟨_, A, c, B, d, rfl, bo.bx, bo.lo, bo.lt, bo.ne (ri.alloc _) h1, bo.ne (rb.alloc _) h2, ri.alloc _, rb.alloc _, balloc b _⟩
theorem HaR.set {V X : World} {n m c d g : Nat} {A B : Option Addr} {l : List Int} {h : List UInt8} {k : Int} {T : TypeId} {u v x : Value} (bo : Bo V X T g u v x) (ri : Ro V X 3 A n c (iv l)) (rb : Ro V X 5 B m d (bv h)) (b : Below V.heap.size V X)
    (h1 : T ≠ 3) (h2 : T ≠ 5) : HaR V n m l h k (.pointer (some ⟨g, 0, none⟩)) (((X.setCell ⟨g, 0, none⟩ (.slice A n c)).setCell ⟨g, 1, none⟩ (.slice B m d)).setCell ⟨g, 2, none⟩ (.int .i64 k)) := by
  have e1 := bo.ne ri h1
  have e2 := bo.ne rb h2
  refine ⟨_, A, c, B, d, rfl, bo.bx.set3, bo.lo, by simpa using bo.lt, e1, e2, ((ri.set_ne e1 _).set_ne e1 _).set_ne e1 _, ((rb.set_ne e2 _).set_ne e2 _).set_ne e2 _, ((b.setCell ?_ _).setCell ?_ _).setCell ?_ _⟩
  all_goals exact bo.lo

end Go.Proofs.Ytnngiampfdjlfaa
