/- The built-in append once more: what it leaves as it was, and that its row lies where the old one lay or in new memory. -/
import Derived.Test.YtnngiampfdjlfaaStepG
namespace Go.Proofs.Ytnngiampfdjlfaa
open Go.ChangeShapes Go.WideShapes Go.ChangeAt Go.RowKit
set_option linter.unusedVariables false

/-- The row lies where the old one lay, or in memory beyond w. -/
def Nx (w : World) (A : Option Addr) (n c : Nat) (A' : Option Addr) (n' c' : Nat) : Prop := ∀ k, (Value.slice A' n' c').ownBlock = some k → (Value.slice A n c).ownBlock = some k ∨ w.heap.size ≤ k
theorem Nx.apart {w : World} {A B A' : Option Addr} {n c n' c' m d lo hi : Nat} {t : TypeId} {ys : List Value} {W : World} (h : Nx w A n c A' n' c') (a : Apart A B n c m d) (o : Ow W t B m d lo hi ys) (hh : hi ≤ w.heap.size) : Apart A' B n' c' m d := by
  intro k h1 h2
  rcases h k h1 with h3 | h3
  · exact a k h3 h2
  · have := (o.rng k h2).2
    omega

section
variable {P : Program} (w : World)
theorem append_nx (base : Nat) (t ty e : TypeId) (i : TypeInfo) (z : Value) (bytes : Nat) (ht : P.underlying t = some (.slice e)) (hi : P.info? e = some i) (hz : i.zero = some z)
    (hsize : i.size = 1) (hby : i.bytes = bytes)
    (A0 : Option Addr) (n c0 : Nat) (xs : List Value) (hown : w.ownsRow base e 1 (.slice A0 n c0) n xs)
    (A : Option Addr) (m c : Nat) (news : List Value) (hr : Rd w A m c news) (h1 : ∀ u ∈ news, u.oneCell' = true)
    (h63 : n + m ≤ maxLen) (hbytes : (n + m) * bytes ≤ 140737488355328) {A' : Option Addr} {n' c' : Nat} {w' : World}
    (hrun : (Builtin.append_ #[t, t] ty #[.slice A0 n c0, .slice A m c]).run P w = .ok (.slice A' n' c') w') : Nx w A0 n c0 A' n' c' := by
  have key : ∀ {v2 w2}, (Builtin.append_ #[t, t] ty #[.slice A0 n c0, .slice A m c]).run P w = .ok v2 w2 → Value.slice A' n' c' = v2 := fun h => by rw [hrun] at h; injection h
  intro k hk
  have hsmall : n + m ≤ 9223372036854775807 := by simp only [maxLen] at h63; omega
  by_cases hm : m = 0
  · subst hm
    rcases hown.2 with ⟨h, rfl⟩ | ⟨g, cap, cur, h, _, _, hnc, _⟩
    · injection h with h1 h2 h3
      subst h1; subst h3
      have := key (v2 := .slice none 0 0) (w2 := w) (by
        cases A with
        | none => simp [Builtin.append_, run_underlying ht, sizeOf, typeInfo, hi, Builtin.lenOf, Builtin.firstCells]
        | some ad => simp [Builtin.append_, run_underlying ht, sizeOf, typeInfo, hi, Builtin.lenOf, Builtin.firstCells, loadCells, loadCellsFrom])
      rw [this] at hk
      exact .inl hk
    · injection h with h1 h2 h3
      subst h1; subst h3
      have := key (v2 := .slice (some ⟨g, 0, none⟩) n c0) (w2 := w) (by
        cases A with
        | none => simp [Builtin.append_, run_underlying ht, sizeOf, typeInfo, hi, Builtin.lenOf, Builtin.firstCells, hnc, storeCells]
        | some ad => simp [Builtin.append_, run_underlying ht, sizeOf, typeInfo, hi, Builtin.lenOf, Builtin.firstCells, loadCells, loadCellsFrom, hnc, storeCells])
      rw [this] at hk
      exact .inl hk
  · obtain ⟨b, off, rfl, _, hc⟩ := hr.at_ (by omega)
    have hcells : ∀ j u, news[j]? = some u → w.cell? ((⟨b, off, none⟩ : Addr).add j) = some u := by
      intro j u hu
      rw [Addr.add_lit]
      exact hc j u hu
    have hl : news.length = m * i.size := by have := hr.len; rw [hsize]; omega
    subst hby
    rcases hown.2 with ⟨h, rfl⟩ | ⟨g, cap, cur, h, hbg, hg, hnc, hcm, hcs, htake⟩
    · injection h with e1 e2 e3
      subst e1; subst e3
      have := key (run_append_nil (P := P) w t ty e i z ht hi hz ⟨b, off, none⟩ m c news hl hcells (by omega) (by omega) (by have hb := hbytes; simp only [Nat.zero_add] at hb; omega))
      rw [this] at hk
      injection hk with hk
      exact .inr (Nat.le_of_eq hk)
    · injection h with e1 e2 e3
      subst e1; subst e3
      by_cases hroom : n + m ≤ c0
      · have hfit : n * i.size + news.length ≤ cur.size := by rw [hl, hcs, hsize, ← Nat.add_mul]; exact Nat.mul_le_mul_right _ hroom
        have := key (run_append_room (P := P) w t ty e i ht hi g n c0 cur hg ⟨b, off, none⟩ m c news hl hcells h1 hroom hfit)
        rw [this] at hk
        exact .inl hk
      · have holds : ∀ j u, xs[j]? = some u → w.cell? ((⟨g, 0, none⟩ : Addr).add j) = some u := hown.cells (g := g) rfl
        have := key (run_append_grow (P := P) w t ty e i z ht hi hz ⟨g, 0, none⟩ n c0 xs (by rw [hsize]; exact hown.1) holds ⟨b, off, none⟩ m c news hl hcells (by omega) (by omega) (growslice_fits (by omega) hbytes))
        rw [this] at hk
        injection hk with hk
        exact .inr (Nat.le_of_eq hk)

theorem wp_append_rd_x {o : Oper} {a : Act} {K : Act → World → Prop} {Q : Exit → Act → World → Prop} (s x : Operand) (t : TypeId)
    (ho : o.op = .call { callee := .builtin .append, args := #[s, x], argTypes := #[t, t] })
    (base : Nat) (e : TypeId) (i : TypeInfo) (z : Value) (bytes : Nat) (ht : P.underlying t = some (.slice e)) (hi : P.info? e = some i) (hz : i.zero = some z)
    (hsize : i.size = 1) (hby : i.bytes = bytes) (hzs : z.cells.size = 1)
    (A0 : Option Addr) (n c0 : Nat) (xs : List Value) (hs : a.eval s = .slice A0 n c0) (hown : w.ownsRow base e 1 (.slice A0 n c0) n xs)
    (A : Option Addr) (m c : Nat) (news : List Value) (hx : a.eval x = .slice A m c) (hr : Rd w A m c news) (h1 : ∀ u ∈ news, u.oneCell' = true)
    (h63 : n + m ≤ maxLen) (hbytes : (n + m) * bytes ≤ 140737488355328) (hbase : base ≤ w.heap.size)
    (h : ∀ A' c' w', Hid (w'.ownsRow base e 1 (.slice A' (n + m) c') (n + m) (xs ++ news)) → w.grownBy w' (Value.slice A0 n c0).ownBlock → Nx w A0 n c0 A' (n + m) c' → K (a.put o.dst (.slice A' (n + m) c')) w') : o.wp P a w K Q := by
  obtain ⟨A', c', w', hrun, h2, h3⟩ := run_append_rd_g (P := P) w base t o.type e i z bytes ht hi hz hsize hby hzs A0 n c0 xs hown A m c news hr h1 h63 hbytes hbase
  have h4 := append_nx (P := P) w base t o.type e i z bytes ht hi hz hsize hby A0 n c0 xs hown A m c news hr h1 h63 hbytes hrun
  unfold Oper.wp execOp
  simp only [ho, resolve, invoke, builtin, Sem.run_bind, Sem.run_pure, Result.andThen_ok, List.map_toArray, List.map_cons, List.map_nil, hs, hx, hrun]
  exact h A' c' w' h2 h3 h4
end

/-- append of bytes, outside a region that draws. -/
theorem append_bytes_x (w : World) {ops : Array Oper} {rest : List Oper} {o : Oper} {a : Act} {Q : Exit → Act → World → Prop} (hgd : o.guard = none) (s x : Operand)
    (ho : o.op = .call { callee := .builtin .append, args := #[s, x], argTypes := #[22, 22] }) (base : Nat)
    (A0 : Option Addr) (n c0 : Nat) (xs : List UInt8) (hs : a.eval s = .slice A0 n c0) (hown : Hid (w.ownsRow base 5 1 (.slice A0 n c0) n (bv xs)))
    (A : Option Addr) (m c : Nat) (news : List UInt8) (hx : a.eval x = .slice A m c) (hr : Rd w A m c (bv news))
    (hnm : n + m ≤ 70368744177664) (hbase : base ≤ w.heap.size)
    (h : ∀ A' c' w', Hid (w'.ownsRow base 5 1 (.slice A' (n + m) c') (n + m) (bv (xs ++ news))) → w.grownBy w' (Value.slice A0 n c0).ownBlock → Nx w A0 n c0 A' (n + m) c' → wpList Try.prog ops Q rest (a.put o.dst (.slice A' (n + m) c')) w') : wpList Try.prog ops Q (o :: rest) a w := by
  obtain ⟨i0, hi0, hz0, hz1, hz2⟩ := info_parts info_u8
  exact wpList_plain hgd fun _ hK => wp_append_rd_x w s x 22 ho base 5 i0 (.int .u8 0) 1 Try.underlying22 hi0 hz0 hz1 hz2 rfl A0 n c0 _ hs hown.out A m c _ hx hr (bv_one _) (by unfold maxLen; omega) (by omega) hbase fun A' c' w' h2 h3 h4 => hK _ _ (h A' c' w' (by rw [bv_app]; exact h2) h3 h4)
/-- append of bytes, at a step of a region that draws. -/
theorem step_append_bytes_x (w : World) {ops : Array Oper} {o : Oper} {a : Act} {K : Act → World → Prop} {Q : Exit → Act → World → Prop} {E : Prop} (hgd : o.guard = none) (s x : Operand)
    (ho : o.op = .call { callee := .builtin .append, args := #[s, x], argTypes := #[22, 22] }) (base : Nat)
    (A0 : Option Addr) (n c0 : Nat) (xs : List UInt8) (hs : a.eval s = .slice A0 n c0) (hown : Hid (w.ownsRow base 5 1 (.slice A0 n c0) n (bv xs)))
    (A : Option Addr) (m c : Nat) (news : List UInt8) (hx : a.eval x = .slice A m c) (hr : Rd w A m c (bv news))
    (hnm : n + m ≤ 70368744177664) (hbase : base ≤ w.heap.size)
    (h : ∀ A' c' w', Hid (w'.ownsRow base 5 1 (.slice A' (n + m) c') (n + m) (bv (xs ++ news))) → w.grownBy w' (Value.slice A0 n c0).ownBlock → Nx w A0 n c0 A' (n + m) c' → K (a.put o.dst (.slice A' (n + m) c')) w') :
    if Region.wanted o (yielded ops a.tmps) = true then Oper.wp Try.prog o a w K Q else E := by
  have hw : Region.wanted o (yielded ops a.tmps) = true := by simp [Region.wanted, hgd]
  rw [if_pos hw]
  obtain ⟨i0, hi0, hz0, hz1, hz2⟩ := info_parts info_u8
  exact wp_append_rd_x w s x 22 ho base 5 i0 (.int .u8 0) 1 Try.underlying22 hi0 hz0 hz1 hz2 rfl A0 n c0 _ hs hown.out A m c _ hx hr (bv_one _) (by unfold maxLen; omega) (by omega) hbase fun A' c' w' h2 h3 h4 => h A' c' w' (by rw [bv_app]; exact h2) h3 h4

end Go.Proofs.Ytnngiampfdjlfaa
