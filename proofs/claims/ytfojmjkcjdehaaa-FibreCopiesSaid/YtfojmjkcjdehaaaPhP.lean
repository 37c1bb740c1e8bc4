/- The law's act: Copy, and all of it. How calls of a device that came in are read: a slice of them, one by value; marks. -/
import Derived.Test.YtfojmjkcjdehaaaPnO
import Derived.Test.YtfojmjkcjdehaaaPhK
import Derived.ProofKit
import Derived.OpenShut
import Derived.Deep.SlicePairs
namespace Go.Proofs.Ytfojmjkcjdehaaa
open Go Go.RowKit Go.Shelf
attribute [local go_sem] Oper.semAt_some


set_option maxRecDepth 100000 in
set_option maxHeartbeats 4000000 in
theorem act_copy (d lb sb : Nat) (D E : Dv) (v : Value) (what a ln wd fr : Int) (bo : Option Addr) (bn bc : Nat) (x0 : what ≠ 0) (x1 : what ≠ 1) (x2 : what ≠ 2) (x3 : what ≠ 3) (x4 : what ≠ 4) (x5 : what ≠ 5) (x6 : what ≠ 6) (x7 : what ≠ 7) (w : World) (hD : DevAt w d lb sb D) (hn : DvOk D) (hR : RefAt w v E) (hm : DvOk E) :
    Calls Try.prog 15 #[.pointer (some ⟨d, 0, none⟩), v, .agg #[.int .i64 what, .int .i64 a, .int .i64 ln, .int .u64 wd, .int .u64 fr, .slice bo bn bc]] w (ActP w d lb sb D E (D = E)) := by

  have hRR := hR
  obtain ⟨sg, sc, tg, tc, wo, wc, rfl, _, _, _⟩ := hRR
  obtain ⟨W0, hw0⟩ : ∃ W0, ((w.alloc (.cells #[.slice (some ⟨sg, 0, none⟩) E.n sc, .slice (some ⟨tg, 0, none⟩) E.n tc, .slice wo E.W.length wc] 33)).alloc (.cells #[.int .i64 what, .int .i64 a, .int .i64 ln, .int .u64 wd, .int .u64 fr, .slice bo bn bc] 39)).alloc (.cells #[.slice none 0 0, .slice none 0 0, .slice none 0 0] 33) = W0 := ⟨_, rfl⟩
  have hE0 : Ext [] w W0 := by rw [← hw0]; exact (((Ext.refl [] w).alloc _).alloc _).alloc _
  obtain ⟨hb4, hb5, hb7, hs0⟩ := al3_heap (w := w) #[.slice (some ⟨sg, 0, none⟩) E.n sc, .slice (some ⟨tg, 0, none⟩) E.n tc, .slice wo E.W.length wc] #[.int .i64 what, .int .i64 a, .int .i64 ln, .int .u64 wd, .int .u64 fr, .slice bo bn bc] #[.slice none 0 0, .slice none 0 0, .slice none 0 0] 33 39 33
  rw [hw0] at hb4 hb5 hb7 hs0
  obtain ⟨hdl, hll, hsl⟩ := hD.lt
  have hnb : ∀ q, w.heap.size ≤ q → q ∉ [d, lb, sb] := fun q hq hm => by simp at hm; omega
  have H0 := Lib.hid (And.intro hE0 (And.intro hb4 (And.intro hb5 (And.intro hb7 (And.intro hs0 (And.intro (hD.ext0 hE0) (And.intro (hR.ext0 hE0) (And.intro hnb hD))))))))
  have HN := Lib.hid (And.intro hn hm)
  obtain ⟨a0, a1, a2, a3, a4, a5⟩ := six hb5
  have a0' := a0
  obtain ⟨k0, k1, k2⟩ := three hb4
  clear hE0 hb4 hb5 hb7 hs0 hD hR hdl hll hsl hnb hn hm
  have HC := Lib.hid (fun W (hE : Ext [] W0 W) => pm_Copy d lb sb D W (H0.out.2.2.2.2.2.1.ext0 hE) HN.out.1)
  have g0 : (what == 0) = false := by simpa using x0
  have g1 : (what == 1) = false := by simpa using x1
  have g2 : (what == 2) = false := by simpa using x2
  have g3 : (what == 3) = false := by simpa using x3
  have g4 : (what == 4) = false := by simpa using x4
  have g5 : (what == 5) = false := by simpa using x5
  have g6 : (what == 6) = false := by simpa using x6
  have g7 : (what == 7) = false := by simpa using x7
  have HK : Hid (∀ W, Ext [w.heap.size + 2] W0 W → W.cell? ⟨w.heap.size, 0, none⟩ = some (.slice (some ⟨sg, 0, none⟩) E.n sc) ∧ W.cell? ⟨w.heap.size, 1, none⟩ = some (.slice (some ⟨tg, 0, none⟩) E.n tc) ∧ W.cell? ⟨w.heap.size, 2, none⟩ = some (.slice wo E.W.length wc)) := fun W hE => three (hE.at H0.out.2.1 (by simp))
  obtain ⟨m0, m1, m2⟩ := three H0.out.2.2.2.1
  have f0 := free_of H0.out.2.2.2.1 0
  have f1 := free_of H0.out.2.2.2.1 1
  have f2 := free_of H0.out.2.2.2.1 2
  have hz := lt_of_block H0.out.2.2.2.1
  clear x0 x1 x2 x3 x4 x5 x6 x7 a1 a2 a3 a4 a5
  go_enter Try.func15, Try.ntmps15
  go_upto_region 33 with fail
  clear g0 g1 g2 g3 g4 g5 g6 g7 a0 a0' hw0
  go_region_held3 (fun W => W.cell? ⟨w.heap.size, 0, none⟩ = some (.slice (some ⟨sg, 0, none⟩) E.n sc) ∧ W.cell? ⟨w.heap.size, 1, none⟩ = some (.slice (some ⟨tg, 0, none⟩) E.n tc) ∧ W.cell? ⟨w.heap.size, 2, none⟩ = some (.slice wo E.W.length wc))
    (first
      | exact HK.out _ (Ext.refl _ _).drew
      | exact HK.out _ hX1.wide
      | exact HK.out _ (ext_three hX1.wide (.inl (by simp)) _ _ _))
    ((go_at_call 17; refine (HC.out _ (Ext.refl _ _).drew).mono ?_; rintro e w1 ⟨d', lb', sb', rfl, hE1, hD1, hd1, hl1, hs1⟩
      have hX1 : Ext [] W0 w1 := (Ext.refl [] W0).drew.trans hE1
      have HD1 := Lib.hid (And.intro hD1 (And.intro hd1 (And.intro hl1 hs1)))
      have n0 := hX1.cell m0 (by simp)
      have n1 := hX1.cell m1 (by simp)
      have n2 := hX1.cell m2 (by simp)
      have e0 := hX1.frozen f0 hz (by simp)
      have e1 := hX1.frozen f1 hz (by simp)
      have e2 := hX1.frozen f2 hz (by simp)
      clear hE1 hD1 hd1 hl1 hs1))
  all_goals go_wp2
  all_goals
    have hsz : w.heap.size ≤ W0.drew.heap.size := H0.out.1.size
    obtain ⟨hD1, hd1, hl1, hs1⟩ := HD1.out
    refine bodyPost_ret (results_tct Try.results15 _ _ (w.heap.size + 2) _ #[.slice (some ⟨sg, 0, none⟩) E.n sc, .slice (some ⟨tg, 0, none⟩) E.n tc, .slice wo E.W.length wc] _ _ _ _ rfl rfl (tri_set (hX1.at H0.out.2.2.2.1 (by simp)) _ _ _) rfl Try.underlying33 rfl (by kernel_rfl)) rfl ?_
    exact act_fin (hX1.at H0.out.2.2.2.1 (by simp)) (by omega) (H0.out.1.trans hX1).wide hD1 (H0.out.2.2.2.2.2.2.1.ext0 hX1) (.inr (by omega)) (.inr (by omega)) (.inr (by omega)) (fun _ => rfl)

theorem ActP.wide {w : World} {d lb sb : Nat} {D' E' : Dv} {p q : Prop} {e : Ending} {w' : World} (h : ActP w d lb sb D' E' p e w') (hq : q → p) : ActP w d lb sb D' E' q e w' := by
  obtain ⟨a, b, c, v, r, h1, h2, h3, h4, h5, h6, h7, h8⟩ := h
  exact ⟨a, b, c, v, r, h1, h2, h3, h4, h5, h6, h7, fun hh => h8 (hq hh)⟩
/-- a call by both -/
theorem pm_act (d lb sb : Nat) (D E : Dv) (v : Value) (x : PAct) (w : World) (hD : DevAt w d lb sb D) (hn : DvOk D) (hR : RefAt w v E) (hm : DvOk E) (hnn : D.n = E.n) (hM : ∀ W, Ext [d, lb, sb] w W → BoolsAt W x.bo x.n x.M) (hmn : x.n ≤ 9223372036854775807) :
    Calls Try.prog 15 #[.pointer (some ⟨d, 0, none⟩), v, actV x] w (ActP w d lb sb (actD D x) (actD E x) (D = E)) := by
  obtain ⟨what, a, ln, wd, fr, bo, bn, bc, M⟩ := x
  unfold actV actD
  dsimp only at *
  by_cases h1 : what = 1
  · subst h1
    simp only [if_true]
    exact act_store d lb sb D E v a ln wd fr bo bn bc w hD hn hR hm
  rw [if_neg h1, if_neg h1]
  by_cases h2 : what = 2
  · subst h2
    simp only [if_true]
    exact act_swap d lb sb D E v a ln wd fr bo bn bc w hD hn hR hm
  rw [if_neg h2, if_neg h2]
  by_cases h3 : what = 3
  · subst h3
    simp only [if_true]
    exact act_flush d lb sb D E v a ln wd fr bo bn bc w hD hn hR hm
  rw [if_neg h3, if_neg h3]
  by_cases h4 : what = 4
  · subst h4
    simp only [if_true]
    exact act_fence d lb sb D E v a ln wd fr bo bn bc w hD hn hR hm
  rw [if_neg h4, if_neg h4]
  by_cases h5 : what = 5
  · subst h5
    simp only [if_true]
    exact act_evict d lb sb D E v a ln wd fr bo bn bc w hD hn hR hm
  rw [if_neg h5, if_neg h5]
  by_cases h6 : what = 6
  · subst h6
    simp only [if_true]
    exact act_crash d lb sb D E v a ln wd fr bo bn bc w hD hn hR hm M hM hmn
  rw [if_neg h6, if_neg h6]
  by_cases h0 : what = 0 ∨ what = 7
  · exact act_load d lb sb D E v what a ln wd fr bo bn bc hnn h0 w hD hn hR hm
  · exact act_copy d lb sb D E v what a ln wd fr bo bn bc (fun h => h0 (.inl h)) h1 h2 h3 h4 h5 h6 (fun h => h0 (.inr h)) w hD hn hR hm
end Go.Proofs.Ytfojmjkcjdehaaa
namespace Go.Proofs.Ytfojmjkcjdehaaa
open Go Go.RowKit Go.ChangeShapes Go.WideShapes Go.ChangeAt Go.Deep

def PActOk (a : PAct) : Prop := a.n ≤ maxLen
theorem spot_none {w : World} {x : Addr} {v : Value} (h : w.cell? x = some v) : x.spot = none := by
  obtain ⟨b, off, sp⟩ := x
  cases sp with
  | none => rfl
  | some _ => simp [World.cell?] at h; split at h <;> simp at h
theorem add_at {x : Addr} (hx : x.spot = none) (i : Nat) : x.add i = ⟨x.block, x.off + i, none⟩ := by
  obtain ⟨b, off, sp⟩ := x
  cases hx
  unfold Addr.add
  split <;> simp_all
def boolOf : Value → Bool
  | .bool b => b
  | _ => false

variable {H : Type} {enc : TypeId × Value → H} {P : Program} {w : World}

theorem bools_open {t e : TypeId} {fuel : Nat} {cs : List Value} {x : DataW H × List MemPlace} (ht : P.underlying t = some (.slice e)) (he : P.underlying e = some .bool) (ce : P.cellsOf e = 1)
    (h : DataW.trod enc P w 0 (fun _ => true) true fuel t cs = some x) : ∃ ao n cap M, cs = [.slice ao n cap] ∧ BoolsAt w ao n M ∧ n ≤ maxLen := by
  rcases open_slice1 ht ce h with ⟨rfl, _⟩ | ⟨a, len, cap, m, n, V, D, Pl, rfl, _, hl, hc, hm, _, hx⟩
  · exact ⟨none, 0, 0, fun _ => false, rfl, .inl rfl, Nat.zero_le _⟩
  · simp at hm
    subst hm
    have key : ∀ i, i < len → ∃ k, V i = .bool k := fun i hi => by
      obtain ⟨k, e1, _⟩ := DataW.trod_bool he (hx i (by omega)).2
      simp at e1
      exact ⟨k, e1⟩
    refine ⟨some a, len, m, fun i => boolOf (V i), rfl, ?_, Nat.le_trans hl hc⟩
    rcases Nat.eq_zero_or_pos len with h0 | h0
    · exact .inl h0
    have hs : a.spot = none := by
      have := spot_none (hx 0 (by omega)).1
      unfold Addr.add at this
      simpa using this
    refine .inr ⟨a.block, a.off, by obtain ⟨b, off, sp⟩ := a; cases hs; rfl, fun i hi => ?_⟩
    obtain ⟨k, e1⟩ := key i hi
    have := (hx i (by omega)).1
    rw [add_at hs] at this
    rw [this]
    show some (V i) = some (.bool (boolOf (V i)))
    rw [e1]
    rfl

theorem pact_row {f0 f1 f2 f3 f4 f5 : Field} {e eb : TypeId} {n : Nat} {cs' : List Value} {x : DataW H × List MemPlace} (he : P.underlying e = some (.struct #[f0, f1, f2, f3, f4, f5])) (hlen : cs'.length = 6)
    (o0 : f0.offset = 0) (o1 : f1.offset = 1) (o2 : f2.offset = 2) (o3 : f3.offset = 3) (o4 : f4.offset = 4) (o5 : f5.offset = 5) (c0 : P.cellsOf f0.type = 1) (c1 : P.cellsOf f1.type = 1) (c2 : P.cellsOf f2.type = 1) (c3 : P.cellsOf f3.type = 1) (c4 : P.cellsOf f4.type = 1) (c5 : P.cellsOf f5.type = 1)
    (u0 : P.underlying f0.type = some (.int .i64)) (u1 : P.underlying f1.type = some (.int .i64)) (u2 : P.underlying f2.type = some (.int .i64)) (u3 : P.underlying f3.type = some (.int .u64)) (u4 : P.underlying f4.type = some (.int .u64)) (u5 : P.underlying f5.type = some (.slice eb)) (ub : P.underlying eb = some .bool) (cb : P.cellsOf eb = 1)
    (h2 : DataW.trod enc P w 0 (fun _ => true) true n e cs' = some x) : ∃ A : PAct, cs' = [.int .i64 A.what, .int .i64 A.at', .int .i64 A.line, .int .u64 A.wd, .int .u64 A.fr, .slice A.bo A.n A.cap] ∧ BoolsAt w A.bo A.n A.M ∧ PActOk A := by
  obtain ⟨xs, k, hk, _, _, hxl, hf⟩ := DataW.trod_struct he h2
  match xs, hxl, cs', hlen with
  | [y0, y1, y2, y3, y4, y5], _, [v0, v1, v2, v3, v4, v5], _ =>
    have g0 := hf 0 f0 rfl
    have g1 := hf 1 f1 rfl
    have g2 := hf 2 f2 rfl
    have g3 := hf 3 f3 rfl
    have g4 := hf 4 f4 rfl
    have g5 := hf 5 f5 rfl
    simp [o0, o1, o2, o3, o4, o5, c0, c1, c2, c3, c4, c5] at g0 g1 g2 g3 g4 g5
    obtain ⟨k0, r0, _, _⟩ := DataW.trod_int u0 g0
    obtain ⟨k1, r1, _, _⟩ := DataW.trod_int u1 g1
    obtain ⟨k2, r2, _, _⟩ := DataW.trod_int u2 g2
    obtain ⟨k3, r3, _, _⟩ := DataW.trod_int u3 g3
    obtain ⟨k4, r4, _, _⟩ := DataW.trod_int u4 g4
    obtain ⟨bo, n2, cap2, M, r5, hI, hn2⟩ := bools_open u5 ub cb g5
    simp at r0 r1 r2 r3 r4 r5
    subst r0 r1 r2 r3 r4 r5
    exact ⟨⟨k0, k1, k2, k3, k4, bo, n2, cap2, M⟩, rfl, hI, hn2⟩

theorem pacts_open {t e eb : TypeId} {f0 f1 f2 f3 f4 f5 : Field} {fuel : Nat} {cs : List Value} {x : DataW H × List MemPlace} (ht : P.underlying t = some (.slice e)) (he : P.underlying e = some (.struct #[f0, f1, f2, f3, f4, f5])) (ce : P.cellsOf e = 6)
    (o0 : f0.offset = 0) (o1 : f1.offset = 1) (o2 : f2.offset = 2) (o3 : f3.offset = 3) (o4 : f4.offset = 4) (o5 : f5.offset = 5) (c0 : P.cellsOf f0.type = 1) (c1 : P.cellsOf f1.type = 1) (c2 : P.cellsOf f2.type = 1) (c3 : P.cellsOf f3.type = 1) (c4 : P.cellsOf f4.type = 1) (c5 : P.cellsOf f5.type = 1)
    (u0 : P.underlying f0.type = some (.int .i64)) (u1 : P.underlying f1.type = some (.int .i64)) (u2 : P.underlying f2.type = some (.int .i64)) (u3 : P.underlying f3.type = some (.int .u64)) (u4 : P.underlying f4.type = some (.int .u64)) (u5 : P.underlying f5.type = some (.slice eb)) (ub : P.underlying eb = some .bool) (cb : P.cellsOf eb = 1)
    (h : DataW.trod enc P w 0 (fun _ => true) true fuel t cs = some x) : ∃ ao n cap A, cs = [.slice ao n cap] ∧ PActs w ao n A ∧ n ≤ maxLen ∧ ∀ i, i < n → PActOk (A i) := by
  rcases open_slice ht h with ⟨rfl, _⟩ | ⟨a, len, cap, m, n, D, Pl, rfl, hb, hl, hc, hm, _, hx⟩
  · exact ⟨none, 0, 0, fun _ => default, rfl, .inl rfl, Nat.zero_le _, fun j hj => absurd hj (Nat.not_lt_zero _)⟩
  simp at hm
  subst hm
  have each : ∀ i, i < len → ∃ A : PAct, w.cell? (a.add (i * 6)) = some (.int .i64 A.what) ∧ w.cell? (a.add (i * 6 + 1)) = some (.int .i64 A.at') ∧ w.cell? (a.add (i * 6 + 2)) = some (.int .i64 A.line) ∧ w.cell? (a.add (i * 6 + 3)) = some (.int .u64 A.wd) ∧ w.cell? (a.add (i * 6 + 4)) = some (.int .u64 A.fr) ∧ w.cell? (a.add (i * 6 + 5)) = some (.slice A.bo A.n A.cap) ∧ BoolsAt w A.bo A.n A.M ∧ PActOk A := by
    intro i hi
    obtain ⟨cs', h1, h2⟩ := hx i (by omega)
    rw [ce] at h1
    obtain ⟨_, hlen, hcell⟩ := World.cells?_some h1
    obtain ⟨A, rfl, hI, hok⟩ := pact_row he hlen o0 o1 o2 o3 o4 o5 c0 c1 c2 c3 c4 c5 u0 u1 u2 u3 u4 u5 ub cb h2
    have e0 := hcell 0 (by omega)
    have e1 := hcell 1 (by omega)
    have e2 := hcell 2 (by omega)
    have e3 := hcell 3 (by omega)
    have e4 := hcell 4 (by omega)
    have e5 := hcell 5 (by omega)
    rw [add_add] at e0 e1 e2 e3 e4 e5
    exact ⟨A, by simpa using e0, by simpa using e1, by simpa using e2, by simpa using e3, by simpa using e4, by simpa using e5, hI, hok⟩
  obtain ⟨A, hA⟩ := choose_lt each
  refine ⟨some a, len, m, A, rfl, ?_, Nat.le_trans hl hc, fun i hi => (hA i hi).2.2.2.2.2.2.2⟩
  rcases Nat.eq_zero_or_pos len with h0 | h0
  · exact .inl h0
  have hs : a.spot = none := by
    have := spot_none (hA 0 h0).1
    unfold Addr.add at this
    simpa using this
  refine .inr ⟨a.block, a.off, by obtain ⟨b, off, sp⟩ := a; cases hs; rfl, fun i hi => ?_⟩
  obtain ⟨q0, q1, q2, q3, q4, q5, q6, _⟩ := hA i hi
  rw [add_at hs] at q0 q1 q2 q3 q4 q5
  exact ⟨q0, q1, q2, q3, q4, q5, q6⟩
theorem pact_val_open {t eb : TypeId} {f0 f1 f2 f3 f4 f5 : Field} {r : Reach} {b0 : Nat} {v : Value} {d : DataW H} {p : List MemPlace} (he : P.underlying t = some (.struct #[f0, f1, f2, f3, f4, f5])) (ce : P.cellsOf t = 6)
    (o0 : f0.offset = 0) (o1 : f1.offset = 1) (o2 : f2.offset = 2) (o3 : f3.offset = 3) (o4 : f4.offset = 4) (o5 : f5.offset = 5) (c0 : P.cellsOf f0.type = 1) (c1 : P.cellsOf f1.type = 1) (c2 : P.cellsOf f2.type = 1) (c3 : P.cellsOf f3.type = 1) (c4 : P.cellsOf f4.type = 1) (c5 : P.cellsOf f5.type = 1)
    (u0 : P.underlying f0.type = some (.int .i64)) (u1 : P.underlying f1.type = some (.int .i64)) (u2 : P.underlying f2.type = some (.int .i64)) (u3 : P.underlying f3.type = some (.int .u64)) (u4 : P.underlying f4.type = some (.int .u64)) (u5 : P.underlying f5.type = some (.slice eb)) (ub : P.underlying eb = some .bool) (cb : P.cellsOf eb = 1)
    (hv : Value.okWide P w r b0 t v) (h : DataW.Trod enc P w 0 (fun _ => true) true t v d p) : ∃ A : PAct, v = actV A ∧ BoolsAt w A.bo A.n A.M ∧ PActOk A := by
  obtain ⟨cs, rfl, hsz⟩ := okWide_struct he hv
  obtain ⟨fuel, hf⟩ := h
  obtain ⟨A, hA, hI, hok⟩ := pact_row (cs' := cs.toList) he (by rw [Array.length_toList]; exact hsz.trans ce) o0 o1 o2 o3 o4 o5 c0 c1 c2 c3 c4 c5 u0 u1 u2 u3 u4 u5 ub cb hf
  refine ⟨A, ?_, hI, hok⟩
  unfold actV
  rw [← Array.toList_inj.1 (show cs.toList = (#[.int .i64 A.what, .int .i64 A.at', .int .i64 A.line, .int .u64 A.wd, .int .u64 A.fr, .slice A.bo A.n A.cap] : Array Value).toList from hA)]
theorem bools_slice {t e : TypeId} {ao : Option Addr} {n cap : Nat} {d : DataW H} {p : List MemPlace} (ht : P.underlying t = some (.slice e)) (he : P.underlying e = some .bool) (ce : P.cellsOf e = 1) (h : DataW.Trod enc P w 0 (fun _ => true) true t (.slice ao n cap) d p) :
    ∃ M, BoolsAt w ao n M ∧ n ≤ maxLen := by
  obtain ⟨fuel, hf⟩ := h
  obtain ⟨a2, n2, c2, M, hcs, h1, h2⟩ := bools_open ht he ce hf
  simp [Value.cells] at hcs
  obtain ⟨rfl, rfl, rfl⟩ := hcs
  exact ⟨M, h1, h2⟩
end Go.Proofs.Ytfojmjkcjdehaaa
