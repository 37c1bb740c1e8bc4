/- How touches that came in are read. -/
import Derived.Test.YtjdojckemphadaaTdR
import Derived.WalkKit
import Derived.ProofKit
import Derived.OpenShut
import Derived.Deep.SlicePairs
namespace Go.Proofs.Ytjdojckemphadaa
open Go Go.RowKit Go.ChangeShapes Go.WideShapes Go.ChangeAt Go.Deep

instance : Inhabited Tch := ⟨tch0⟩
/-- numbers as they came in -/
def TchOk (t : Tch) : Prop := (-9223372036854775808 ≤ t.kd ∧ t.kd ≤ 9223372036854775807) ∧ (-9223372036854775808 ≤ t.at' ∧ t.at' ≤ 9223372036854775807) ∧ 0 ≤ t.wd ∧ t.wd ≤ 18446744073709551615
theorem tspot {w : World} {x : Addr} {v : Value} (h : w.cell? x = some v) : x.spot = none := by
  obtain ⟨b, off, sp⟩ := x
  cases sp with
  | none => rfl
  | some _ => simp [World.cell?] at h; split at h <;> simp at h
theorem tadd {x : Addr} (hx : x.spot = none) (i : Nat) : x.add i = ⟨x.block, x.off + i, none⟩ := by
  obtain ⟨b, off, sp⟩ := x
  cases hx
  unfold Addr.add
  split <;> simp_all
theorem wf_i64 {n : Int} (h : (Lit.int .i64 n).wf = true) : -9223372036854775808 ≤ n ∧ n ≤ 9223372036854775807 := by
  have h2 : (decide (IntKind.min .i64 ≤ n) && decide (n ≤ IntKind.max .i64)) = true := h
  simp [IntKind.min, IntKind.max, IntKind.signed, IntKind.bits] at h2
  omega
theorem wf_u64 {n : Int} (h : (Lit.int .u64 n).wf = true) : 0 ≤ n ∧ n ≤ 18446744073709551615 := by
  have h2 : (decide (IntKind.min .u64 ≤ n) && decide (n ≤ IntKind.max .u64)) = true := h
  simp [IntKind.min, IntKind.max, IntKind.signed, IntKind.bits] at h2
  omega
variable {H : Type} {enc : TypeId × Value → H} {P : Program} {w : World}
theorem tch_row {f0 f1 f2 : Field} {e : TypeId} {n : Nat} {cs' : List Value} {x : DataW H × List MemPlace} (he : P.underlying e = some (.struct #[f0, f1, f2])) (hlen : cs'.length = 3)
    (o0 : f0.offset = 0) (o1 : f1.offset = 1) (o2 : f2.offset = 2) (c0 : P.cellsOf f0.type = 1) (c1 : P.cellsOf f1.type = 1) (c2 : P.cellsOf f2.type = 1)
    (u0 : P.underlying f0.type = some (.int .i64)) (u1 : P.underlying f1.type = some (.int .i64)) (u2 : P.underlying f2.type = some (.int .u64))
    (h2 : DataW.trod enc P w 0 (fun _ => true) true n e cs' = some x) : ∃ t : Tch, cs' = tchR t ∧ TchOk t := by
  obtain ⟨xs, k, hk, _, _, hxl, hf⟩ := DataW.trod_struct he h2
  match xs, hxl, cs', hlen with
  | [y0, y1, y2], _, [v0, v1, v2], _ =>
    have g0 := hf 0 f0 rfl
    have g1 := hf 1 f1 rfl
    have g2 := hf 2 f2 rfl
    simp [o0, o1, o2, c0, c1, c2] at g0 g1 g2
    obtain ⟨k0, r0, _, w0⟩ := DataW.trod_int u0 g0
    obtain ⟨k1, r1, _, w1⟩ := DataW.trod_int u1 g1
    obtain ⟨k2, r2, _, w2⟩ := DataW.trod_int u2 g2
    simp at r0 r1 r2
    subst r0 r1 r2
    exact ⟨⟨k0, k1, k2⟩, rfl, wf_i64 w0, wf_i64 w1, wf_u64 w2⟩
theorem list_of (n : Nat) (T : Nat → Tch) : ∃ L : List Tch, L.length = n ∧ ∀ i, i < n → L.getD i tch0 = T i :=
  ⟨(List.range n).map T, by simp, fun i hi => by simp [List.getD_eq_getElem?_getD, hi]⟩
/-- a slice of touches -/
theorem tchs_open {t e : TypeId} {f0 f1 f2 : Field} {fuel : Nat} {cs : List Value} {x : DataW H × List MemPlace} (ht : P.underlying t = some (.slice e)) (he : P.underlying e = some (.struct #[f0, f1, f2])) (ce : P.cellsOf e = 3)
    (o0 : f0.offset = 0) (o1 : f1.offset = 1) (o2 : f2.offset = 2) (c0 : P.cellsOf f0.type = 1) (c1 : P.cellsOf f1.type = 1) (c2 : P.cellsOf f2.type = 1)
    (u0 : P.underlying f0.type = some (.int .i64)) (u1 : P.underlying f1.type = some (.int .i64)) (u2 : P.underlying f2.type = some (.int .u64))
    (h : DataW.trod enc P w 0 (fun _ => true) true fuel t cs = some x) : ∃ ao cap L, cs = [.slice ao L.length cap] ∧ TcAt w w.heap.size ao L ∧ L.length ≤ maxLen ∧ ∀ i, i < L.length → TchOk (L.getD i tch0) := by
  rcases open_slice ht h with ⟨rfl, _⟩ | ⟨a, len, cap, m, n, D, Pl, rfl, hb, hl, hc, hm, _, hx⟩
  · exact ⟨none, 0, [], rfl, TcAt.nil' _ _, Nat.zero_le _, fun j hj => absurd hj (Nat.not_lt_zero _)⟩
  simp at hm
  subst hm
  have each : ∀ i, i < len → ∃ A : Tch, (∀ j, j < 3 → w.cell? (a.add (i * 3 + j)) = (tchR A)[j]?) ∧ TchOk A := by
    intro i hi
    obtain ⟨cs', h1, h2⟩ := hx i (by omega)
    rw [ce] at h1
    obtain ⟨_, hlen, hcell⟩ := World.cells?_some h1
    obtain ⟨A, rfl, hok⟩ := tch_row he hlen o0 o1 o2 c0 c1 c2 u0 u1 u2 h2
    refine ⟨A, fun j hj => ?_, hok⟩
    have e0 := hcell j (by omega)
    rw [add_add] at e0
    rw [e0]
  obtain ⟨A, hA⟩ := choose_lt each
  obtain ⟨L, hL, hLA⟩ := list_of len A
  refine ⟨some a, m, L, by rw [hL], ?_, by rw [hL]; exact Nat.le_trans hl hc, fun i hi => by rw [hLA i (by omega)]; exact (hA i (by omega)).2⟩
  rcases Nat.eq_zero_or_pos len with h0 | h0
  · exact ⟨.inl (by omega), .inl (by omega)⟩
  have h00 := (hA 0 h0).1 0 (by omega)
  have hs : a.spot = none := by
    have := tspot h00
    unfold Addr.add at this
    simpa using this
  have hlt : a.block < w.heap.size := by
    rw [tadd hs] at h00
    have h01 : w.cell? ⟨a.block, a.off + (0 * 3 + 0), none⟩ = some (.int .i64 (A 0).kd) := h00
    exact World.block_lt_of_cell? w ⟨a.block, a.off + (0 * 3 + 0), none⟩ h01
  refine ⟨.inr ⟨a.block, a.off, by obtain ⟨b, off, sp⟩ := a; cases hs; rfl, fun i hi j hj => ?_⟩, .inr fun p hp => by cases hp; exact ⟨hlt, .inl hlt⟩⟩
  have := (hA i (by omega)).1 j hj
  rw [tadd hs] at this
  unfold tR
  rw [hLA i (by omega)]
  exact this
end Go.Proofs.Ytjdojckemphadaa
