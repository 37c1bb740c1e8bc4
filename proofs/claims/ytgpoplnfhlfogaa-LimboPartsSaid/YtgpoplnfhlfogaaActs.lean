/- How a slice of acts (two numbers and a list of numbers each) that came in is read. No program is named here. -/
import Derived.Test.YtgpoplnfhlfogaaMaps
import Derived.WalkKit
import Derived.ProofKit
import Derived.OpenShut
import Derived.Deep.SlicePairs
namespace Go.Proofs.Ytgpoplnfhlfogaa
open Go Go.RowKit Go.ChangeShapes Go.WideShapes Go.ChangeAt Go.Deep

def I64 (x : Int) : Prop := -9223372036854775808 ≤ x ∧ x ≤ 9223372036854775807
theorem i64_ok {n : Int} (h : (Lit.int .i64 n).wf = true) : I64 n := by
  have h2 : (decide (IntKind.min .i64 ≤ n) && decide (n ≤ IntKind.max .i64)) = true := h
  rw [Bool.and_eq_true, decide_eq_true_eq, decide_eq_true_eq] at h2
  have h3 : IntKind.min .i64 = -9223372036854775808 := by decide
  have h4 : IntKind.max .i64 = 9223372036854775807 := by decide
  unfold I64
  omega

/-- a list of numbers lies there -/
def IntsB (w : World) (ao : Option Addr) (n : Nat) (L : Nat → Int) : Prop :=
  n = 0 ∨ ∃ b off, ao = some ⟨b, off, none⟩ ∧ ∀ i, i < n → w.cell? ⟨b, off + i, none⟩ = some (.int .i64 (L i))
theorem IntsB.extm {w w' : World} {m : List Nat} {ao : Option Addr} {n : Nat} {L : Nat → Int} (h : IntsB w ao n L) (hE : Ext m w w') (hm : ∀ p, ao = some p → p.block ∉ m) : IntsB w' ao n L := by
  rcases h with h | ⟨b, off, h1, h2⟩
  · exact .inl h
  · exact .inr ⟨b, off, h1, fun i hi => hE.cell (h2 i hi) (show b ∉ m from hm _ h1)⟩
theorem IntsB.ext {w w' : World} {ao : Option Addr} {n : Nat} {L : Nat → Int} (h : IntsB w ao n L) (hE : Ext [] w w') : IntsB w' ao n L := h.extm hE (fun _ _ => by simp)

structure ActV where
  what : Int
  many : Int
  bo : Option Addr
  n : Nat
  cap : Nat
  L : Nat → Int
instance : Inhabited ActV := ⟨⟨0, 0, none, 0, 0, fun _ => 0⟩⟩
/-- acts lie there -/
def Acts (w : World) (ao : Option Addr) (n : Nat) (A : Nat → ActV) : Prop :=
  n = 0 ∨ ∃ b off, ao = some ⟨b, off, none⟩ ∧ ∀ i, i < n → w.cell? ⟨b, off + i * 3, none⟩ = some (.int .i64 (A i).what) ∧ w.cell? ⟨b, off + i * 3 + 1, none⟩ = some (.int .i64 (A i).many) ∧
    w.cell? ⟨b, off + i * 3 + 2, none⟩ = some (.slice (A i).bo (A i).n (A i).cap) ∧ IntsB w (A i).bo (A i).n (A i).L
theorem Acts.ext {w w' : World} {ao : Option Addr} {n : Nat} {A : Nat → ActV} (h : Acts w ao n A) (hE : Ext [] w w') : Acts w' ao n A := by
  rcases h with h | ⟨b, off, h1, h2⟩
  · exact .inl h
  · exact .inr ⟨b, off, h1, fun i hi => ⟨hE.cell (h2 i hi).1 (by simp), hE.cell (h2 i hi).2.1 (by simp), hE.cell (h2 i hi).2.2.1 (by simp), (h2 i hi).2.2.2.ext hE⟩⟩
def ActOk (a : ActV) : Prop := I64 a.what ∧ I64 a.many ∧ a.n ≤ maxLen ∧ ∀ j, j < a.n → I64 (a.L j)

theorem spot_none {w : World} {x : Addr} {v : Value} (h : w.cell? x = some v) : x.spot = none := by
  obtain ⟨b, off, sp⟩ := x
  cases sp with
  | none => rfl
  | some _ => simp [World.cell?] at h; split at h <;> simp at h
theorem add_at {x : Addr} (hx : x.spot = none) (i : Nat) : x.add i = ⟨x.block, x.off + i, none⟩ := by
  obtain ⟨b, off, sp⟩ := x
  cases hx
  unfold Addr.add
  split <;> simp_all

variable {H : Type} {enc : TypeId × Value → H} {P : Program} {w : World}

theorem ints_open {t e : TypeId} {fuel : Nat} {cs : List Value} {x : DataW H × List MemPlace} (ht : P.underlying t = some (.slice e)) (he : P.underlying e = some (.int .i64)) (ce : P.cellsOf e = 1)
    (h : DataW.trod enc P w 0 (fun _ => true) true fuel t cs = some x) : ∃ ao n cap L, cs = [.slice ao n cap] ∧ IntsB w ao n L ∧ n ≤ maxLen ∧ ∀ j, j < n → I64 (L j) := by
  rcases open_slice1 ht ce h with ⟨rfl, _⟩ | ⟨a, len, cap, m, n, V, D, Pl, rfl, _, hl, hc, hm, _, hx⟩
  · exact ⟨none, 0, 0, fun _ => 0, rfl, .inl rfl, Nat.zero_le _, fun j hj => absurd hj (Nat.not_lt_zero _)⟩
  · simp at hm
    subst hm
    have key : ∀ i, i < len → ∃ k, V i = .int .i64 k ∧ I64 k := fun i hi => by
      obtain ⟨k, e1, _, wf⟩ := DataW.trod_int he (hx i (by omega)).2
      simp at e1
      exact ⟨k, e1, i64_ok wf⟩
    refine ⟨some a, len, m, fun i => intOf (V i), rfl, ?_, Nat.le_trans hl hc, fun j hj => ?_⟩
    · rcases Nat.eq_zero_or_pos len with h0 | h0
      · exact .inl h0
      have hs : a.spot = none := by
        have := spot_none (hx 0 (by omega)).1
        unfold Addr.add at this
        simpa using this
      refine .inr ⟨a.block, a.off, by obtain ⟨b, off, sp⟩ := a; cases hs; rfl, fun i hi => ?_⟩
      obtain ⟨k, e1, _⟩ := key i hi
      have := (hx i (by omega)).1
      rw [add_at hs] at this
      rw [this, e1]
      simp [e1, intOf]
    · obtain ⟨k, e1, hk⟩ := key j hj
      simpa [e1, intOf] using hk

theorem acts_open {t e ei : TypeId} {f0 f1 f2 : Field} {fuel : Nat} {cs : List Value} {x : DataW H × List MemPlace} (ht : P.underlying t = some (.slice e)) (he : P.underlying e = some (.struct #[f0, f1, f2]))
    (ce : P.cellsOf e = 3) (o0 : f0.offset = 0) (o1 : f1.offset = 1) (o2 : f2.offset = 2) (c0 : P.cellsOf f0.type = 1) (c1 : P.cellsOf f1.type = 1) (c2 : P.cellsOf f2.type = 1)
    (u0 : P.underlying f0.type = some (.int .i64)) (u1 : P.underlying f1.type = some (.int .i64)) (u2 : P.underlying f2.type = some (.slice ei)) (ui : P.underlying ei = some (.int .i64)) (ci : P.cellsOf ei = 1)
    (h : DataW.trod enc P w 0 (fun _ => true) true fuel t cs = some x) : ∃ ao n cap A, cs = [.slice ao n cap] ∧ Acts w ao n A ∧ n ≤ maxLen ∧ ∀ i, i < n → ActOk (A i) := by
  rcases open_slice ht h with ⟨rfl, _⟩ | ⟨a, len, cap, m, n, D, Pl, rfl, hb, hl, hc, hm, _, hx⟩
  · exact ⟨none, 0, 0, fun _ => ⟨0, 0, none, 0, 0, fun _ => 0⟩, rfl, .inl rfl, Nat.zero_le _, fun j hj => absurd hj (Nat.not_lt_zero _)⟩
  simp at hm
  subst hm
  have each : ∀ i, i < len → ∃ A : ActV, w.cell? (a.add (i * 3)) = some (.int .i64 A.what) ∧ w.cell? (a.add (i * 3 + 1)) = some (.int .i64 A.many) ∧ w.cell? (a.add (i * 3 + 2)) = some (.slice A.bo A.n A.cap) ∧ IntsB w A.bo A.n A.L ∧ ActOk A := by
    intro i hi
    obtain ⟨cs', h1, h2⟩ := hx i (by omega)
    rw [ce] at h1
    obtain ⟨_, hlen, hcell⟩ := World.cells?_some h1
    obtain ⟨xs, k, hk, _, _, hxl, hf⟩ := DataW.trod_struct he h2
    match xs, hxl, cs', hlen with
    | [y0, y1, y2], _, [v0, v1, v2], _ =>
      have g0 := hf 0 f0 rfl
      have g1 := hf 1 f1 rfl
      have g2 := hf 2 f2 rfl
      simp [o0, o1, o2, c0, c1, c2] at g0 g1 g2
      have e0 := hcell 0 (by omega)
      have e1 := hcell 1 (by omega)
      have e2 := hcell 2 (by omega)
      rw [add_add] at e0 e1 e2
      obtain ⟨k0, r0, _, wf0⟩ := DataW.trod_int u0 g0
      obtain ⟨k1, r1, _, wf1⟩ := DataW.trod_int u1 g1
      obtain ⟨bo, n2, cap2, L2, r2, hI, hn2, hL2⟩ := ints_open u2 ui ci g2
      simp at r0 r1 r2
      subst r0 r1 r2
      exact ⟨⟨k0, k1, bo, n2, cap2, L2⟩, by simpa using e0, by simpa using e1, by simpa using e2, hI, i64_ok wf0, i64_ok wf1, hn2, hL2⟩
  obtain ⟨A, hA⟩ := choose_lt each
  refine ⟨some a, len, m, A, rfl, ?_, Nat.le_trans hl hc, fun i hi => (hA i hi).2.2.2.2⟩
  rcases Nat.eq_zero_or_pos len with h0 | h0
  · exact .inl h0
  have hs : a.spot = none := by
    have := spot_none (hA 0 h0).1
    unfold Addr.add at this
    simpa using this
  refine .inr ⟨a.block, a.off, by obtain ⟨b, off, sp⟩ := a; cases hs; rfl, fun i hi => ?_⟩
  obtain ⟨q0, q1, q2, q3, _⟩ := hA i hi
  rw [add_at hs] at q0 q1 q2
  exact ⟨q0, q1, q2, q3⟩
end Go.Proofs.Ytgpoplnfhlfogaa
