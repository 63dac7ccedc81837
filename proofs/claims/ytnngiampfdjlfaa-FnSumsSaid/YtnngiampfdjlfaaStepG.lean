/- The built-in append once more, with all that it leaves as it was; two rows of one type that cannot share a block. -/
import Derived.Test.YtnngiampfdjlfaaStep
namespace Go.Proofs.Ytnngiampfdjlfaa
open Go.ChangeShapes Go.WideShapes Go.ChangeAt Go.RowKit
set_option linter.unusedVariables false

section
variable {P : Program} (w : World)
theorem run_append_rd_g (base : Nat) (t ty e : TypeId) (i : TypeInfo) (z : Value) (bytes : Nat) (ht : P.underlying t = some (.slice e)) (hi : P.info? e = some i) (hz : i.zero = some z)
    (hsize : i.size = 1) (hby : i.bytes = bytes) (hzs : z.cells.size = 1)
    (A0 : Option Addr) (n c0 : Nat) (xs : List Value) (hown : w.ownsRow base e 1 (.slice A0 n c0) n xs)
    (A : Option Addr) (m c : Nat) (news : List Value) (hr : Rd w A m c news) (h1 : ∀ u ∈ news, u.oneCell' = true)
    (h63 : n + m ≤ maxLen) (hbytes : (n + m) * bytes ≤ 140737488355328) (hbase : base ≤ w.heap.size) :
    ∃ A' c' w', (Builtin.append_ #[t, t] ty #[.slice A0 n c0, .slice A m c]).run P w = .ok (.slice A' (n + m) c') w' ∧ w'.ownsRow base e 1 (.slice A' (n + m) c') (n + m) (xs ++ news) ∧ w.grownBy w' (Value.slice A0 n c0).ownBlock := by
  by_cases hm : m = 0
  · subst hm
    have hn : news = [] := List.eq_nil_of_length_eq_zero (by have := hr.len; omega)
    subst hn
    refine ⟨A0, c0, w, ?_, by simpa using hown, ⟨rfl, rfl, rfl, Nat.le_refl _, fun _ _ _ => rfl⟩⟩
    rcases hown.2 with ⟨h, rfl⟩ | ⟨g, cap, cur, h, _, _, hnc, _⟩
    · injection h with h1 h2 h3
      subst h1; subst h3
      cases A with
      | none => simp [Builtin.append_, run_underlying ht, sizeOf, typeInfo, hi, Builtin.lenOf, Builtin.firstCells]
      | some ad => simp [Builtin.append_, run_underlying ht, sizeOf, typeInfo, hi, Builtin.lenOf, Builtin.firstCells, loadCells, loadCellsFrom]
    · injection h with h1 h2 h3
      subst h1; subst h3
      cases A with
      | none => simp [Builtin.append_, run_underlying ht, sizeOf, typeInfo, hi, Builtin.lenOf, Builtin.firstCells, hnc, storeCells]
      | some ad => simp [Builtin.append_, run_underlying ht, sizeOf, typeInfo, hi, Builtin.lenOf, Builtin.firstCells, loadCells, loadCellsFrom, hnc, storeCells]
  obtain ⟨b, off, rfl, _, hc⟩ := hr.at_ (by omega)
  have hcells : ∀ j u, news[j]? = some u → w.cell? ((⟨b, off, none⟩ : Addr).add j) = some u := by
    intro j u hu
    rw [Addr.add_lit]
    exact hc j u hu
  obtain ⟨v', w', hrun, h2, h3, h4⟩ := run_append_own (P := P) w base t ty e i z 1 bytes ht hi hz hsize hby hzs (by decide) (.slice A0 n c0) n xs hown ⟨b, off, none⟩ m c news (by have := hr.len; omega) hcells h1 h63 hbytes hbase
  obtain ⟨g, cap, hv⟩ := Joins.ownsRow_form h2 (by omega)
  subst hv
  exact ⟨_, _, w', hrun, h2, h3⟩
theorem wp_append_rd_g {o : Oper} {a : Act} {K : Act → World → Prop} {Q : Exit → Act → World → Prop} (s x : Operand) (t : TypeId)
    (ho : o.op = .call { callee := .builtin .append, args := #[s, x], argTypes := #[t, t] })
    (base : Nat) (e : TypeId) (i : TypeInfo) (z : Value) (bytes : Nat) (ht : P.underlying t = some (.slice e)) (hi : P.info? e = some i) (hz : i.zero = some z)
    (hsize : i.size = 1) (hby : i.bytes = bytes) (hzs : z.cells.size = 1)
    (A0 : Option Addr) (n c0 : Nat) (xs : List Value) (hs : a.eval s = .slice A0 n c0) (hown : w.ownsRow base e 1 (.slice A0 n c0) n xs)
    (A : Option Addr) (m c : Nat) (news : List Value) (hx : a.eval x = .slice A m c) (hr : Rd w A m c news) (h1 : ∀ u ∈ news, u.oneCell' = true)
    (h63 : n + m ≤ maxLen) (hbytes : (n + m) * bytes ≤ 140737488355328) (hbase : base ≤ w.heap.size)
    (h : ∀ A' c' w', Hid (w'.ownsRow base e 1 (.slice A' (n + m) c') (n + m) (xs ++ news)) → w.grownBy w' (Value.slice A0 n c0).ownBlock → K (a.put o.dst (.slice A' (n + m) c')) w') : o.wp P a w K Q := by
  obtain ⟨A', c', w', hrun, h2, h3⟩ := run_append_rd_g (P := P) w base t o.type e i z bytes ht hi hz hsize hby hzs A0 n c0 xs hown A m c news hr h1 h63 hbytes hbase
  unfold Oper.wp execOp
  simp only [ho, resolve, invoke, builtin, Sem.run_bind, Sem.run_pure, Result.andThen_ok, List.map_toArray, List.map_cons, List.map_nil, hs, hx, hrun]
  exact h A' c' w' h2 h3
end

/-- append of bytes, outside a region that draws. -/
theorem append_bytes_g (w : World) {ops : Array Oper} {rest : List Oper} {o : Oper} {a : Act} {Q : Exit → Act → World → Prop} (hgd : o.guard = none) (s x : Operand)
    (ho : o.op = .call { callee := .builtin .append, args := #[s, x], argTypes := #[22, 22] }) (base : Nat)
    (A0 : Option Addr) (n c0 : Nat) (xs : List UInt8) (hs : a.eval s = .slice A0 n c0) (hown : Hid (w.ownsRow base 5 1 (.slice A0 n c0) n (bv xs)))
    (A : Option Addr) (m c : Nat) (news : List UInt8) (hx : a.eval x = .slice A m c) (hr : Rd w A m c (bv news))
    (hnm : n + m ≤ 70368744177664) (hbase : base ≤ w.heap.size)
    (h : ∀ A' c' w', Hid (w'.ownsRow base 5 1 (.slice A' (n + m) c') (n + m) (bv (xs ++ news))) → w.grownBy w' (Value.slice A0 n c0).ownBlock → wpList Try.prog ops Q rest (a.put o.dst (.slice A' (n + m) c')) w') : wpList Try.prog ops Q (o :: rest) a w := by
  obtain ⟨i0, hi0, hz0, hz1, hz2⟩ := info_parts info_u8
  exact wpList_plain hgd fun _ hK => wp_append_rd_g w s x 22 ho base 5 i0 (.int .u8 0) 1 Try.underlying22 hi0 hz0 hz1 hz2 rfl A0 n c0 _ hs hown.out A m c _ hx hr (bv_one _) (by unfold maxLen; omega) (by omega) hbase fun A' c' w' h2 h3 => hK _ _ (h A' c' w' (by rw [bv_app]; exact h2) h3)
/-- append of bytes, at a step of a region that draws. -/
theorem step_append_bytes_g (w : World) {ops : Array Oper} {o : Oper} {a : Act} {K : Act → World → Prop} {Q : Exit → Act → World → Prop} {E : Prop} (hgd : o.guard = none) (s x : Operand)
    (ho : o.op = .call { callee := .builtin .append, args := #[s, x], argTypes := #[22, 22] }) (base : Nat)
    (A0 : Option Addr) (n c0 : Nat) (xs : List UInt8) (hs : a.eval s = .slice A0 n c0) (hown : Hid (w.ownsRow base 5 1 (.slice A0 n c0) n (bv xs)))
    (A : Option Addr) (m c : Nat) (news : List UInt8) (hx : a.eval x = .slice A m c) (hr : Rd w A m c (bv news))
    (hnm : n + m ≤ 70368744177664) (hbase : base ≤ w.heap.size)
    (h : ∀ A' c' w', Hid (w'.ownsRow base 5 1 (.slice A' (n + m) c') (n + m) (bv (xs ++ news))) → w.grownBy w' (Value.slice A0 n c0).ownBlock → K (a.put o.dst (.slice A' (n + m) c')) w') :
    if Region.wanted o (yielded ops a.tmps) = true then Oper.wp Try.prog o a w K Q else E := by
  have hw : Region.wanted o (yielded ops a.tmps) = true := by simp [Region.wanted, hgd]
  rw [if_pos hw]
  obtain ⟨i0, hi0, hz0, hz1, hz2⟩ := info_parts info_u8
  exact wp_append_rd_g w s x 22 ho base 5 i0 (.int .u8 0) 1 Try.underlying22 hi0 hz0 hz1 hz2 rfl A0 n c0 _ hs hown.out A m c _ hx hr (bv_one _) (by unfold maxLen; omega) (by omega) hbase fun A' c' w' h2 h3 => h A' c' w' (by rw [bv_app]; exact h2) h3

/-- The two slices lie in different blocks. -/
def Apart (A B : Option Addr) (n c m d : Nat) : Prop := ∀ k, (Value.slice A n c).ownBlock = some k → (Value.slice B m d).ownBlock ≠ some k
theorem Apart.symm {A B : Option Addr} {n c m d : Nat} (h : Apart A B n c m d) : Apart B A m d n c := fun k h1 h2 => h k h2 h1
/-- Rows whose first cells differ, or whose rooms differ, lie apart. -/
theorem apart_of {w : World} {t : TypeId} {A B : Option Addr} {n c m d lo hi lo' hi' : Nat} {xs ys : List Value} (h : Ow w t A n c lo hi xs) (k : Ow w t B m d lo' hi' ys)
    (hd : c ≠ d ∨ ∃ u v, xs[0]? = some u ∧ ys[0]? = some v ∧ u ≠ v) : Apart A B n c m d := by
  intro q h1 h2
  rcases h.own.2 with ⟨e, _⟩ | ⟨g, cap, cur, e, _, hh, hn, _, hs, ht⟩
  · rw [e] at h1; simp [Value.ownBlock] at h1
  · rcases k.own.2 with ⟨e', _⟩ | ⟨g', cap', cur', e', _, hh', hn', _, hs', ht'⟩
    · rw [e'] at h2; simp [Value.ownBlock] at h2
    · rw [e] at h1; rw [e'] at h2
      simp [Value.ownBlock] at h1 h2
      subst h1; subst h2
      rw [hh] at hh'
      injection hh' with hh'
      injection hh' with hc _
      subst hc
      injection e with e1 e2 e3
      injection e' with e1' e2' e3'
      rcases hd with hd | ⟨u, v, hu, hv, hne⟩
      · exact hd (by omega)
      · have hx : cur.toList[0]? = some u := by
          rw [← ht] at hu
          rw [List.getElem?_take] at hu
          split at hu
          · exact hu
          · cases hu
        have hy : cur.toList[0]? = some v := by
          rw [← ht'] at hv
          rw [List.getElem?_take] at hv
          split at hv
          · exact hv
          · cases hv
        rw [hx] at hy
        injection hy with hy
        exact hne hy
theorem Ow.apart {w w' : World} {t : TypeId} {A B : Option Addr} {n c m d lo hi : Nat} {xs : List Value} (h : Ow w t A n c lo hi xs) (ha : Apart B A m d n c) (hg : w.grownBy w' (Value.slice B m d).ownBlock) : Ow w' t A n c lo hi xs := by
  refine ⟨h.own.kept hg ?_, h.lt⟩
  cases hv : (Value.slice A n c).ownBlock with
  | none => exact .inl rfl
  | some k => exact .inr fun e => ha k e.symm hv

end Go.Proofs.Ytnngiampfdjlfaa
