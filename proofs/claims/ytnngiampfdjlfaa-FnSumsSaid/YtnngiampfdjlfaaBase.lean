/- The words of memory that the proofs of this seat share: a slice that reads as a list of bytes or of integers, a result in new memory, what is kept under later writes. No conditions: plain lemmas. -/
import Derived.Test.YtnngiampfdjlfaaRows
import Derived.WalkKit
import Derived.ProofKit
import Derived.OpenShut
import Derived.ShutString
import Derived.ChangeOld
import Derived.WalkSpells
import Derived.Lib.Hide
import Derived.Lib.SmallJoins
import Derived.Deep.AppendLies
import Derived.Deep.Draws
import Derived.Deep.QuietTactic
import Derived.BigQuiet
import Derived.Maps.AppendAt
namespace Go.Proofs.Ytnngiampfdjlfaa
open Go.ChangeShapes Go.WideShapes Go.ChangeAt Go.RowKit
set_option linter.unusedVariables false

theorem own : ownKnob Try.prog.godebug = none := by kernel_rfl
theorem laidOut : laidOutB Try.prog = true := by kernel_rfl

/-- The cells of a list of bytes. -/
def bv (l : List UInt8) : List Value := l.map fun x => .int .u8 (x.toNat : Int)
/-- The cells of a list of integers. -/
def iv (l : List Int) : List Value := l.map (Value.int .i64)

theorem bv_len (l : List UInt8) : (bv l).length = l.length := by simp [bv]
theorem iv_len (l : List Int) : (iv l).length = l.length := by simp [iv]
theorem bv_app (l m : List UInt8) : bv (l ++ m) = bv l ++ bv m := by simp [bv]
theorem iv_app (l m : List Int) : iv (l ++ m) = iv l ++ iv m := by simp [iv]
theorem bv_get {l : List UInt8} {k : Nat} (h : k < l.length) : (bv l)[k]? = some (.int .u8 ((l[k]).toNat : Int)) := by simp [bv, h]
theorem iv_get {l : List Int} {k : Nat} (h : k < l.length) : (iv l)[k]? = some (.int .i64 l[k]) := by simp [iv, h]
theorem bv_one (l : List UInt8) : ∀ u ∈ bv l, u.oneCell' = true := by
  intro u hu; obtain ⟨_, _, rfl⟩ := List.mem_map.1 hu; rfl
theorem iv_one (l : List Int) : ∀ u ∈ iv l, u.oneCell' = true := by
  intro u hu; obtain ⟨_, _, rfl⟩ := List.mem_map.1 hu; rfl
theorem byte_inj {a b : UInt8} (h : ((a.toNat : Nat) : Int) = (b.toNat : Int)) : a = b := UInt8.toNat_inj.1 (by omega)
theorem byte_lt (a : UInt8) : 0 ≤ ((a.toNat : Nat) : Int) ∧ ((a.toNat : Nat) : Int) < 256 := by have := a.toNat_lt; omega

/-- The slice value '.slice A n c' holds the cells xs. -/
structure Rd (w : World) (A : Option Addr) (n c : Nat) (xs : List Value) : Prop where
  len : xs.length = n
  le : n ≤ c
  max : c ≤ maxLen
  at_ : 0 < n → ∃ b off, A = some ⟨b, off, none⟩ ∧ b < w.heap.size ∧ ∀ j u, xs[j]? = some u → w.cell? ⟨b, off + j, none⟩ = some u

section
variable {w w' : World} {A : Option Addr} {n c : Nat} {xs : List Value}

theorem Rd.keep (h : Rd w A n c xs) (hs : w.heap.size ≤ w'.heap.size) (hk : ∀ p : Addr, p.block < w.heap.size → w'.cell? p = w.cell? p) : Rd w' A n c xs :=
  ⟨h.len, h.le, h.max, fun hn => by
    obtain ⟨b, off, e, hb, hc⟩ := h.at_ hn
    exact ⟨b, off, e, by omega, fun j u hu => (hk _ hb).trans (hc j u hu)⟩⟩
theorem Rd.below {B : Nat} (h : Rd w A n c xs) (hb : Below B w w') (hB : w.heap.size ≤ B) : Rd w' A n c xs := h.keep hb.size fun p hp => hb.cell (by omega)
theorem Rd.drew (h : Rd w A n c xs) : Rd w.drew A n c xs := ⟨h.len, h.le, h.max, h.at_⟩
theorem Rd.drewN (h : Rd w A n c xs) (k : Nat) : Rd (w.drewN k) A n c xs := ⟨h.len, h.le, h.max, h.at_⟩
theorem Rd.alloc (h : Rd w A n c xs) (o : Obj) : Rd (w.alloc o) A n c xs := h.keep (by simp) fun p hp => World.cell?_alloc_lt w o p hp
theorem Rd.nil_ : Rd w none 0 0 [] := ⟨rfl, Nat.le_refl _, by unfold maxLen; omega, fun h => absurd h (by omega)⟩
/-- Its cells, for a walk. -/
theorem Rd.cells (h : Rd w A n c xs) (hn : 0 < n) : ∃ b off, A = some ⟨b, off, none⟩ ∧ b < w.heap.size ∧ ∀ j u, xs[j]? = some u → w.cell? ⟨b, off + j, none⟩ = some u := h.at_ hn
theorem Rd.bnd (h : Rd w A n c xs) : n ≤ c ∧ c ≤ 9223372036854775807 := by have h1 := h.le; have h2 := h.max; unfold maxLen at h2; omega
end

theorem own_rd {w : World} {base n c : Nat} {t : TypeId} {A : Option Addr} {xs : List Value} (h : w.ownsRow base t 1 (.slice A n c) n xs) : Rd w A n c xs := by
  have hl := h.1
  rcases h.2 with ⟨hv, rfl⟩ | ⟨g, cap, cur, hv, hg, hh, hnc, hcm, hcs, htake⟩
  · injection hv with h1 h2 h3
    subst h1; subst h3
    exact ⟨by omega, Nat.le_refl _, by unfold maxLen; omega, fun h => absurd h (by omega)⟩
  · injection hv with h1 h2 h3
    subst h1; subst h3
    refine ⟨by omega, hnc, hcm, fun _ => ⟨g, 0, rfl, (Array.getElem?_eq_some_iff.1 hh).1, fun j u hu => ?_⟩⟩
    have := h.cells (g := g) rfl j u hu
    have hadd : (⟨g, 0, none⟩ : Addr).add j = ⟨g, 0 + j, none⟩ := by unfold Addr.add; split <;> simp_all
    rw [hadd] at this
    exact this

/-- A row of the call's own, in blocks from lo on and below hi. -/
structure Ow (w : World) (t : TypeId) (A : Option Addr) (n c : Nat) (lo hi : Nat) (xs : List Value) : Prop where
  own : w.ownsRow lo t 1 (.slice A n c) n xs
  lt : ∀ k, (Value.slice A n c).ownBlock = some k → k < hi

section
variable {w w' : World} {t : TypeId} {A : Option Addr} {n c lo hi : Nat} {xs : List Value}
theorem Ow.rd (h : Ow w t A n c lo hi xs) : Rd w A n c xs := own_rd h.own
theorem Ow.of_own (h : w.ownsRow lo t 1 (.slice A n c) n xs) : Ow w t A n c lo w.heap.size xs := ⟨h, fun k hk => (h.lt k hk).2⟩
theorem Ow.more {hi' : Nat} (h : Ow w t A n c lo hi xs) (hh : hi ≤ hi') : Ow w t A n c lo hi' xs := ⟨h.own, fun k hk => by have := h.lt k hk; omega⟩
theorem Ow.less {lo' : Nat} (h : Ow w t A n c lo hi xs) (hh : lo' ≤ lo) : Ow w t A n c lo' hi xs := ⟨Joins.ownsRow_le h.own hh, h.lt⟩
theorem Ow.below {B : Nat} (h : Ow w t A n c lo hi xs) (hb : Below B w w') (hB : hi ≤ B) : Ow w' t A n c lo hi xs := by
  refine ⟨⟨h.own.1, ?_⟩, h.lt⟩
  rcases h.own.2 with h0 | ⟨g, cap, cur, hv, hg, hh, r⟩
  · exact .inl h0
  · refine .inr ⟨g, cap, cur, hv, hg, ?_, r⟩
    have : g < hi := h.lt g (by rw [hv]; rfl)
    rw [hb.block g (by omega)]
    exact hh
/-- Another row is written: blocks from lo' on and below hi'. -/
theorem Ow.grown {row : Option Nat} {lo' hi' : Nat} (h : Ow w t A n c lo hi xs) (hg : w.grownBy w' row) (hr : ∀ k, row = some k → lo' ≤ k ∧ k < hi') (hd : hi ≤ lo' ∨ hi' ≤ lo) : Ow w' t A n c lo hi xs := by
  refine ⟨h.own.kept hg ?_, h.lt⟩
  cases hv : (Value.slice A n c).ownBlock with
  | none => exact .inl rfl
  | some k =>
    refine .inr fun e => ?_
    have h1 := h.own.lt k hv
    have h2 := h.lt k hv
    have h3 := hr k e.symm
    omega
end

theorem Ow.rng {w : World} {t : TypeId} {A : Option Addr} {n c lo hi : Nat} {xs : List Value} (h : Ow w t A n c lo hi xs) : ∀ k, (Value.slice A n c).ownBlock = some k → lo ≤ k ∧ k < hi :=
  fun k hk => ⟨(h.own.lt k hk).1, h.lt k hk⟩
theorem Ow.set_ {w : World} {t : TypeId} {A : Option Addr} {n c lo hi : Nat} {xs : List Value} (h : Ow w t A n c lo hi xs) {a : Addr} (ha : a.block < lo) (u : Value) : Ow (w.setCell a u) t A n c lo hi xs :=
  ⟨ownsRow_setCell_below h.own ha u, h.lt⟩
/-- A row that is written lies in new memory: what was there before has not turned. -/
theorem grown_next {w W w1 : World} {t : TypeId} {A : Option Addr} {n c lo hi : Nat} {xs : List Value} (h : Below w.heap.size w W) (o : Ow W t A n c lo hi xs) (hlo : w.heap.size ≤ lo) (hg : W.grownBy w1 (Value.slice A n c).ownBlock) : Below w.heap.size w w1 :=
  h.trans ((Below.refl _ _).grown hg h.size fun k hk => by have := (o.rng k hk).1; omega)

/-- What a function that makes a slice leaves: its value owns the cells xs in new memory, and nothing that was there has turned. -/
def Out (t : TypeId) (w : World) (xs : List Value) (e : Ending) (w' : World) : Prop :=
  ∃ A n c, e = .returned (.slice A n c) ∧ Ow w' t A n c w.heap.size w'.heap.size xs ∧ Below w.heap.size w w'

theorem below_of {P : Program} {f : FuncId} {args : Array Value} {w : World} {x : Ending} (h : Calls P f args w fun e w' => e = x ∧ ∃ d, w' = w.drewN d) : Calls P f args w fun e w' => e = x ∧ Below w.heap.size w w' :=
  h.mono fun _ _ ⟨he, d, hw⟩ => ⟨he, by rw [hw]; exact Joins.below_draws _ _ _⟩

theorem below_eq {P : Program} {f : FuncId} {args : Array Value} {w : World} {x : Ending} (h : Calls P f args w fun e w' => e = x ∧ w = w') : Calls P f args w fun e w' => e = x ∧ Below w.heap.size w w' :=
  h.mono fun _ _ ⟨he, hw⟩ => ⟨he, by rw [← hw]; exact Below.refl _ _⟩

theorem bundrew {w w1 : World} (h : Below w.drew.heap.size w.drew w1) : Below w.heap.size w w1 := ⟨h.os, h.tape, h.output, h.size, h.block⟩
theorem Ow.undrew {w w1 : World} {t : TypeId} {A : Option Addr} {n c hi : Nat} {xs : List Value} (h : Ow w1 t A n c w.drew.heap.size hi xs) : Ow w1 t A n c w.heap.size hi xs := h
theorem grown_cell {w w' : World} {t : TypeId} {A : Option Addr} {n c lo hi g o : Nat} {xs : List Value} {v : Value} (h : Ow w t A n c lo hi xs) (hg : w.grownBy w' (Value.slice A n c).ownBlock) (hlt : g < lo) (hc : w.cell? ⟨g, o, none⟩ = some v) : w'.cell? ⟨g, o, none⟩ = some v :=
  hg.cell hc fun e => by have := (h.rng g e.symm).1; omega

theorem grown_trans {a b c : World} {row : Option Nat} (h : a.grownBy b row) (k : b.grownBy c row) : a.grownBy c row :=
  ⟨k.os.trans h.os, k.tape.trans h.tape, k.output.trans h.output, Nat.le_trans h.size k.size, fun i hi hne => (k.block i (Nat.lt_of_lt_of_le hi h.size) hne).trans (h.block i hi hne)⟩

theorem out_lit (w : World) (t : TypeId) (cs : Array Value) (n : Nat) (hn : cs.size = n) (hm : n ≤ 1000000) :
    Out t w cs.toList (.returned (.slice (some ⟨w.heap.size, 0, none⟩) n n)) (w.alloc (.cells cs t)) :=
  ⟨_, _, _, rfl, Ow.of_own (World.ownsRow_lit w cs n (Nat.le_refl _) (by unfold maxLen; omega) (by omega)), (Below.refl _ _).alloc (Nat.le_refl _) _⟩
theorem Out.conv {t : TypeId} {w w' : World} {xs ys : List Value} {e : Ending} (h : Out t w xs e w') (hx : xs = ys) : Out t w ys e w' := hx ▸ h

theorem grown_below {w w' : World} {row : Option Nat} {B : Nat} (hg : w.grownBy w' row) (hr : ∀ k, row = some k → B ≤ k) (hB : B ≤ w.heap.size) : Below B w w' :=
  (Below.refl _ _).grown hg hB hr

theorem bnext {w W w1 : World} (h : Below w.heap.size w W) (h1 : Below W.heap.size W w1) : Below w.heap.size w w1 := h.trans (h1.mono h.size)
theorem balloc {w W : World} (h : Below w.heap.size w W) (o : Obj) : Below w.heap.size w (W.alloc o) := h.alloc h.size o
theorem bdrew {w W : World} (h : Below w.heap.size w W) : Below w.heap.size w W.drew := h.drew
theorem bdrewN {w W : World} (h : Below w.heap.size w W) (n : Nat) : Below w.heap.size w (W.drewN n) := h.trans (Joins.below_draws _ _ _)
/-- An old block's cells, behind a call that makes new memory alone. -/
theorem bcell {W w1 : World} (hb : Below W.heap.size W w1) : ∀ b o, b < W.heap.size → w1.cell? ⟨b, o, none⟩ = W.cell? ⟨b, o, none⟩ := fun b o h => hb.cell (p := ⟨b, o, none⟩) h
theorem bfroz {W w1 : World} (hb : Below W.heap.size W w1) : ∀ b o, b < W.heap.size → w1.frozen? ⟨b, o, none⟩ = W.frozen? ⟨b, o, none⟩ := fun b o h => hb.frozen (p := ⟨b, o, none⟩) h

theorem bounds64 {a : Int} (h : (Lit.int .i64 a).wf = true) : -9223372036854775808 ≤ a ∧ a ≤ 9223372036854775807 := by
  simpa [Lit.wf, IntKind.min, IntKind.max, IntKind.signed, IntKind.bits] using h
theorem bounds8 {a : Int} (h : (Lit.int .u8 a).wf = true) : 0 ≤ a ∧ a ≤ 255 := by
  simpa [Lit.wf, IntKind.min, IntKind.max, IntKind.signed, IntKind.bits] using h

/-- A slice of bytes that came in, off its reading. -/
theorem open_bytes {H : Type} {enc : TypeId × Value → H} {t e : TypeId} {W : World} {fuel : Nat} {sp : Nat → Bool} {A : Option Addr} {n c : Nat} {x : DataW H × List MemPlace} (ht : Try.prog.underlying t = some (.slice e)) (he : Try.prog.underlying e = some (.int .u8)) (hc1 : Try.prog.cellsOf e = 1)
    (hf : DataW.trod enc Try.prog W 0 sp true fuel t [.slice A n c] = some x) : ∃ l : List UInt8, Rd W A n c (bv l) := by
  rcases open_ints ht he hc1 hf with ⟨hcs, _⟩ | ⟨ad, l, c', zs, hcs, _, hl, hm, hz, _, hcell, hwz⟩
  · simp at hcs
    obtain ⟨rfl, rfl, rfl⟩ := hcs
    exact ⟨[], Rd.nil_⟩
  · simp at hcs
    obtain ⟨rfl, rfl, rfl⟩ := hcs
    have hzl : n ≤ zs.length := by rw [hz]; split <;> omega
    refine ⟨(zs.take n).map fun z => UInt8.ofNat z.toNat, by simp [bv]; omega, hl, hm, fun hn => ?_⟩
    have h0 := hcell 0 (by omega)
    obtain ⟨b, off, spot⟩ := ad
    have hspot : spot = none := by simpa [Addr.add] using World.cell?_spot h0
    subst hspot
    refine ⟨b, off, rfl, by simpa [Addr.add] using World.block_lt_of_cell? W _ h0, fun j u hu => ?_⟩
    have hj : j < n := by
      have := (List.getElem?_eq_some_iff.1 hu).1
      simp [bv] at this
      omega
    have hcj := hcell j (by omega)
    rw [Addr.add_lit] at hcj
    rw [hcj]
    have hjz : j < zs.length := by omega
    have hw := bounds8 (hwz zs[j] (List.getElem_mem hjz))
    simp [bv, hjz, hj] at hu
    rw [← hu]
    have hg : zs.getD j 0 = zs[j] := by simp [List.getD, hjz]
    rw [hg]
    have h256 : zs[j].toNat < 256 := by omega
    have hz8 : zs[j] = (((UInt8.ofNat zs[j].toNat).toNat : Nat) : Int) := by rw [UInt8.toNat_ofNat']; omega
    exact congrArg (fun z : Int => some (Value.int .u8 z)) (by first | exact hz8 | (rw [Nat.mod_eq_of_lt h256]; omega) | omega)

/-- A slice of ints that came in, off its reading. -/
theorem open_nums {H : Type} {enc : TypeId × Value → H} {t e : TypeId} {W : World} {fuel : Nat} {sp : Nat → Bool} {A : Option Addr} {n c : Nat} {x : DataW H × List MemPlace} (ht : Try.prog.underlying t = some (.slice e)) (he : Try.prog.underlying e = some (.int .i64)) (hc1 : Try.prog.cellsOf e = 1)
    (hf : DataW.trod enc Try.prog W 0 sp true fuel t [.slice A n c] = some x) : ∃ l : List Int, Rd W A n c (iv l) ∧ ∀ z ∈ l, -9223372036854775808 ≤ z ∧ z ≤ 9223372036854775807 := by
  rcases open_ints ht he hc1 hf with ⟨hcs, _⟩ | ⟨ad, l, c', zs, hcs, _, hl, hm, hz, _, hcell, hwz⟩
  · simp at hcs
    obtain ⟨rfl, rfl, rfl⟩ := hcs
    exact ⟨[], Rd.nil_, by simp⟩
  · simp at hcs
    obtain ⟨rfl, rfl, rfl⟩ := hcs
    have hzl : n ≤ zs.length := by rw [hz]; split <;> omega
    refine ⟨zs.take n, ⟨by simp [iv]; omega, hl, hm, fun hn => ?_⟩, fun z hzm => bounds64 (hwz z (List.mem_of_mem_take hzm))⟩
    have h0 := hcell 0 (by omega)
    obtain ⟨b, off, spot⟩ := ad
    have hspot : spot = none := by simpa [Addr.add] using World.cell?_spot h0
    subst hspot
    refine ⟨b, off, rfl, by simpa [Addr.add] using World.block_lt_of_cell? W _ h0, fun j u hu => ?_⟩
    have hj : j < n := by
      have := (List.getElem?_eq_some_iff.1 hu).1
      simp [iv] at this
      omega
    have hcj := hcell j (by omega)
    rw [Addr.add_lit] at hcj
    rw [hcj]
    have hjz : j < zs.length := by omega
    simp [iv, hjz, hj] at hu
    have hg : zs.getD j 0 = zs[j] := by simp [List.getD, hjz]
    rw [← hu, hg]

end Go.Proofs.Ytnngiampfdjlfaa
