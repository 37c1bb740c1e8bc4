/- The calls of the laws FibrePlays and FibreCopies (printed by wip/mkFo.py). Openers of []waterlinelaw20.Act (printed by wip/mkFy.py). Both fibres side by side: what the law's act leaves (printed by wip/mkFq.py). -/
import Derived.Test.YtfojmjkcjdehaaaFcA
import Derived.Test.YtfojmjkcjdehaaaFbW
import Derived.Test.YtfojmjkcjdehaaaTcO
import Derived.Test.YtfojmjkcjdehaaaPhP
import Derived.Test.YtfojmjkcjdehaaaFcB
namespace Go.Proofs.Ytfojmjkcjdehaaa
open Go Go.RowKit Go.Shelf
attribute [local go_sem] Oper.semAt_some

/-- a call: what, touches -/
structure FAct where
  what : Int
  bo : Option Addr
  cap : Nat
  M : List Tch
instance : Inhabited FAct := ⟨⟨0, none, 0, []⟩⟩
/-- calls lie there -/
def FActs (w : World) (N : Nat) (ao : Option Addr) (n : Nat) (A : Nat → FAct) : Prop :=
  n = 0 ∨ ∃ b off, ao = some ⟨b, off, none⟩ ∧ ∀ i, i < n → w.cell? ⟨b, off + i * 2, none⟩ = some (.int .i64 (A i).what) ∧ w.cell? ⟨b, off + i * 2 + 1, none⟩ = some (.slice (A i).bo (A i).M.length (A i).cap) ∧ TcAt w N (A i).bo (A i).M
theorem FActs.ext {w w' : World} {N : Nat} {ao : Option Addr} {n : Nat} {A : Nat → FAct} (h : FActs w N ao n A) (hE : Ext [] w w') : FActs w' N ao n A := by
  rcases h with h | ⟨b, off, h1, h2⟩
  · exact .inl h
  · refine .inr ⟨b, off, h1, fun i hi => ?_⟩
    obtain ⟨a0, a1, a2⟩ := h2 i hi
    exact ⟨hE.cell a0 (by simp), hE.cell a1 (by simp), a2.ext0 hE⟩
theorem FActs.tc {w : World} {N : Nat} {ao : Option Addr} {n : Nat} {A : Nat → FAct} (h : FActs w N ao n A) {i : Nat} (hi : i < n) : TcAt w N (A i).bo (A i).M := by
  rcases h with h | ⟨b, off, h1, h2⟩
  · omega
  · exact (h2 i hi).2.2
/-- few calls, of few touches -/
def fewF (n : Nat) (A : Nat → FAct) (most : Int) : Bool := ((List.range n).all fun i => decide ((A i).M.length ≤ 20)) && decide ((n : Int) ≤ most)
theorem fewF_true {n : Nat} {A : Nat → FAct} {most : Int} (h : fewF n A most = true) : (∀ i, i < n → (A i).M.length ≤ 20) ∧ (n : Int) ≤ most := by
  unfold fewF at h
  rw [Bool.and_eq_true, List.all_eq_true, decide_eq_true_eq] at h
  exact ⟨fun i hi => by simpa using h.1 i (List.mem_range.2 hi), h.2⟩

set_option maxRecDepth 100000 in
set_option maxHeartbeats 800000 in
theorem fb_few (ao : Option Addr) (n cap : Nat) (A : Nat → FAct) (most : Int) (w : World) (N : Nat) (hp : FActs w N ao n A) (hn : n ≤ 9223372036854775807) (hA : ∀ i, i < n → (A i).M.length ≤ 9223372036854775807) :
    Calls Try.prog 42 #[.slice ao n cap, .int .i64 most] w fun e w' => e = .returned (.bool (fewF n A most)) ∧ w = w' := by
  have HP := Lib.hid (And.intro hp hA)
  clear hp hA
  go_enter Try.func42, Try.ntmps42
  go_wp2
  go_loopg [5] n (fun cnt i wr => ∃ j : Nat, i = .int .i64 j ∧ j + cnt = n ∧ wr = w ∧ ∀ t, t < j → (A t).M.length ≤ 20)
  case atStart => exact ⟨0, rfl, by omega, rfl, fun t ht => by omega⟩
  case round =>
    obtain ⟨j, rfl, hj, hw, hno⟩ := hrel
    subst hw
    by_cases hlt : j < n
    · obtain ⟨b, off, rfl, k5⟩ : ∃ b off, ao = some ⟨b, off, none⟩ ∧ wr.cell? ⟨b, off + j * 2 + 1, none⟩ = some (.slice (A j).bo (A j).M.length (A j).cap) := by
        rcases HP.out.1 with h | ⟨b, off, h1, h2⟩
        · omega
        · exact ⟨b, off, h1, (h2 j hlt).2.1⟩
      have hi0 : (0 : Int) ≤ (j : Int) := by omega
      have hi1 : (j : Int) < (n : Int) := by omega
      have hm := HP.out.2 j hlt
      have HJ := Lib.hid (And.intro hj (And.intro hlt hno))
      clear hj hno
      by_cases hbig : 20 < (A j).M.length
      · have hd : decide (20 < (A j).M.length) = true := by simpa using hbig
        have hd2 : decide ((20 : Int) < ((A j).M.length : Int)) = true := by simp; omega
        have hr : fewF n A most = false := by
          cases h : fewF n A most with
          | false => rfl
          | true => have := (fewF_true h).1 j hlt; omega
        have HR := Lib.hid hr
        clear hr
        go_wp2
        go_ret
        exact ⟨(by rw [HR.out]; rfl), rfl⟩
      · have hd : decide (20 < (A j).M.length) = false := by simpa using hbig
        have hd2 : decide ((20 : Int) < ((A j).M.length : Int)) = false := by simp; omega
        go_wp2
        go_roundg (n - (j + 1))
        case measure => have := HJ.out.1; omega
        case rel =>
          refine ⟨j + 1, by go_num, by have := HJ.out; omega, rfl, fun t ht => ?_⟩
          by_cases htj : t = j
          · subst htj; omega
          · exact HJ.out.2.2 t (by omega)
    · have hd : decide (j < n) = false := by simpa using hlt
      have hr : fewF n A most = decide ((n : Int) ≤ most) := by
        unfold fewF
        rw [List.all_eq_true.2 (fun t ht => by have := hno t (by have := List.mem_range.1 ht; omega); simpa using this), Bool.true_and]
      have HR := Lib.hid hr
      clear hj hno hlt hr
      cases hq : decide ((n : Int) ≤ most) with
      | true =>
        have hq' : (n : Int) ≤ most := by simpa using hq
        have HQ := Lib.hid hq
        clear hq
        go_wp2
        go_ret
        exact ⟨(by rw [HR.out, HQ.out]; rfl), rfl⟩
      | false =>
        have hq' : ¬ ((n : Int) ≤ most) := by simpa using hq
        have HQ := Lib.hid hq
        clear hq
        go_wp2
        go_ret
        exact ⟨(by rw [HR.out, HQ.out]; rfl), rfl⟩


/-- a call's fibre and device: what is left, what was done -/
def actF (x : FAct) (L dn : List Tch) (D : Dv) : List Tch × List Tch × Dv :=
  if x.what = 0 ∨ x.what = 1 then ((fstep L dn D).L, (fstep L dn D).dn, (fstep L dn D).D) else if x.what = 2 then ((if thenE L dn x.M = 0 then L ++ x.M else L), dn, D) else (L, dn, D)
theorem actF_step {x : FAct} {L dn : List Tch} {D : Dv} (h : x.what = 0 ∨ x.what = 1) : actF x L dn D = ((fstep L dn D).L, (fstep L dn D).dn, (fstep L dn D).D) := if_pos h
theorem actF_then {x : FAct} {L dn : List Tch} {D : Dv} (h : x.what = 2) : actF x L dn D = ((if thenE L dn x.M = 0 then L ++ x.M else L), dn, D) := by
  unfold actF
  rw [if_neg (by omega), if_pos h]
theorem actF_copy {x : FAct} {L dn : List Tch} {D : Dv} (h0 : x.what ≠ 0) (h1 : x.what ≠ 1) (h2 : x.what ≠ 2) : actF x L dn D = (L, dn, D) := by
  unfold actF
  rw [if_neg (by omega), if_neg h2]
theorem thenE_zero {L dn M : List Tch} (h : thenE L dn M = 0) : tcheck M = 0 := by
  unfold thenE ask2 at h
  by_cases h0 : tcheck M = 0
  · exact h0
  · rw [if_neg h0] at h
    exact h
/-- what holds of the touches between two calls -/
structure FOk (L dn : List Tch) (D : Dv) (k : Nat) : Prop where
  right : ∀ t ∈ L, t.right = true
  len : (dn ++ L).length ≤ k
  ok : DvOk D
  nn : D.n = 4
theorem stepT_len (L dn : List Tch) (D : Dv) : ((fstep L dn D).dn ++ (fstep L dn D).L).length = (dn ++ L).length := by
  have := stS_len (L, dn, D)
  rw [List.length_append, List.length_append]
  have h1 : (stS (L, dn, D)).1 = (fstep L dn D).L := rfl
  have h2 : (stS (L, dn, D)).2.1 = (fstep L dn D).dn := rfl
  rw [← h1, ← h2]
  have h3 : ((L, dn, D) : Fs).1 = L := rfl
  have h4 : ((L, dn, D) : Fs).2.1 = dn := rfl
  rw [h3, h4] at this
  omega
theorem fstep_sub (L dn : List Tch) (D : Dv) : ∀ t ∈ (fstep L dn D).L, t ∈ L := by
  intro t ht
  cases L with
  | nil => exact ht
  | cons s r =>
    by_cases hp : playE D [s] = 0
    · have hf : fstep (s :: r) dn D = ⟨stepT D s, 0, r, dn ++ [stepT D s], playD D [s]⟩ := if_pos hp
      rw [hf] at ht
      exact List.mem_cons_of_mem _ ht
    · have hf : fstep (s :: r) dn D = ⟨tch0, playE D [s], s :: r, dn, playD D [s]⟩ := if_neg hp
      rw [hf] at ht
      exact ht
theorem fstep_D {L dn : List Tch} {D : Dv} (h : DvOk D) : DvOk (fstep L dn D).D ∧ (fstep L dn D).D.n = D.n := by
  cases L with
  | nil => exact ⟨h, rfl⟩
  | cons s r =>
    by_cases hp : playE D [s] = 0
    · have hf : fstep (s :: r) dn D = ⟨stepT D s, 0, r, dn ++ [stepT D s], playD D [s]⟩ := if_pos hp
      rw [hf]
      exact ⟨playD_ok h _, playD_n _ _⟩
    · have hf : fstep (s :: r) dn D = ⟨tch0, playE D [s], s :: r, dn, playD D [s]⟩ := if_neg hp
      rw [hf]
      exact ⟨playD_ok h _, playD_n _ _⟩
theorem FOk.act {L dn : List Tch} {D : Dv} {k : Nat} (h : FOk L dn D k) (x : FAct) (hx : x.M.length ≤ 20) : FOk (actF x L dn D).1 (actF x L dn D).2.1 (actF x L dn D).2.2 (k + 20) := by
  unfold actF
  split
  · exact ⟨fun t ht => h.right t (fstep_sub _ _ _ t ht), by show ((fstep L dn D).dn ++ (fstep L dn D).L).length ≤ _; rw [stepT_len]; have := h.len; omega, (fstep_D h.ok).1, (fstep_D h.ok).2.trans h.nn⟩
  · split
    · show FOk (if thenE L dn x.M = 0 then L ++ x.M else L) dn D (k + 20)
      by_cases h0 : thenE L dn x.M = 0
      · rw [if_pos h0]
        have hc := (tcheck_zero (thenE_zero h0)).1
        refine ⟨fun t ht => (List.mem_append.1 ht).elim (h.right t) (hc t), ?_, h.ok, h.nn⟩
        have := h.len
        rw [← List.append_assoc, List.length_append]
        omega
      · rw [if_neg h0]
        exact ⟨h.right, by have := h.len; omega, h.ok, h.nn⟩
    · exact ⟨h.right, by show (dn ++ L).length ≤ _; have := h.len; omega, h.ok, h.nn⟩
theorem fb_numQ (n : Int) (w : World) : Calls Try.prog 36 #[.int .i64 n] w fun e w' => e = .returned (.int .i64 n) ∧ w' = w := (fb_num n w).mono fun _ _ ⟨a, b⟩ => ⟨a, b.symm⟩
end Go.Proofs.Ytfojmjkcjdehaaa
namespace Go.Proofs.Ytfojmjkcjdehaaa
open Go Go.RowKit Go.Shelf Go.Deep Go.ChangeShapes Go.WideShapes Go.ChangeAt
section
variable {H : Type} {enc : TypeId × Value → H} {P : Program} {w : World}
theorem fact_row {f0 f1 g0 g1 g2 : Field} {e eb : TypeId} {n : Nat} {cs' : List Value} {x : DataW H × List MemPlace} (he : P.underlying e = some (.struct #[f0, f1])) (hlen : cs'.length = 2)
    (o0 : f0.offset = 0) (o1 : f1.offset = 1) (c0 : P.cellsOf f0.type = 1) (c1 : P.cellsOf f1.type = 1)
    (u0 : P.underlying f0.type = some (.int .i64)) (u1 : P.underlying f1.type = some (.slice eb)) (ub : P.underlying eb = some (.struct #[g0, g1, g2])) (cb : P.cellsOf eb = 3)
    (p0 : g0.offset = 0) (p1 : g1.offset = 1) (p2 : g2.offset = 2) (d0 : P.cellsOf g0.type = 1) (d1 : P.cellsOf g1.type = 1) (d2 : P.cellsOf g2.type = 1)
    (v0 : P.underlying g0.type = some (.int .i64)) (v1 : P.underlying g1.type = some (.int .i64)) (v2 : P.underlying g2.type = some (.int .u64))
    (h2 : DataW.trod enc P w 0 (fun _ => true) true n e cs' = some x) : ∃ A : FAct, cs' = [.int .i64 A.what, .slice A.bo A.M.length A.cap] ∧ TcAt w w.heap.size A.bo A.M ∧ A.M.length ≤ maxLen := by
  obtain ⟨xs, k, hk, _, _, hxl, hf⟩ := DataW.trod_struct he h2
  match xs, hxl, cs', hlen with
  | [y0, y1], _, [a0, a1], _ =>
    have q0 := hf 0 f0 rfl
    have q1 := hf 1 f1 rfl
    simp [o0, o1, c0, c1] at q0 q1
    obtain ⟨k0, r0, _, _⟩ := DataW.trod_int u0 q0
    obtain ⟨bo, cap2, M, r1, hI, hn2, _⟩ := tchs_open u1 ub cb p0 p1 p2 d0 d1 d2 v0 v1 v2 q1
    simp at r0 r1
    subst r0 r1
    exact ⟨⟨k0, bo, cap2, M⟩, rfl, hI, hn2⟩
theorem facts_open {t e eb : TypeId} {f0 f1 g0 g1 g2 : Field} {fuel : Nat} {cs : List Value} {x : DataW H × List MemPlace} (ht : P.underlying t = some (.slice e)) (he : P.underlying e = some (.struct #[f0, f1])) (ce : P.cellsOf e = 2)
    (o0 : f0.offset = 0) (o1 : f1.offset = 1) (c0 : P.cellsOf f0.type = 1) (c1 : P.cellsOf f1.type = 1)
    (u0 : P.underlying f0.type = some (.int .i64)) (u1 : P.underlying f1.type = some (.slice eb)) (ub : P.underlying eb = some (.struct #[g0, g1, g2])) (cb : P.cellsOf eb = 3)
    (p0 : g0.offset = 0) (p1 : g1.offset = 1) (p2 : g2.offset = 2) (d0 : P.cellsOf g0.type = 1) (d1 : P.cellsOf g1.type = 1) (d2 : P.cellsOf g2.type = 1)
    (v0 : P.underlying g0.type = some (.int .i64)) (v1 : P.underlying g1.type = some (.int .i64)) (v2 : P.underlying g2.type = some (.int .u64))
    (h : DataW.trod enc P w 0 (fun _ => true) true fuel t cs = some x) : ∃ ao n cap A, cs = [.slice ao n cap] ∧ FActs w w.heap.size ao n A ∧ n ≤ maxLen ∧ ∀ i, i < n → (A i).M.length ≤ maxLen := by
  rcases open_slice ht h with ⟨rfl, _⟩ | ⟨a, len, cap, m, n, D, Pl, rfl, hb, hl, hc, hm, _, hx⟩
  · exact ⟨none, 0, 0, fun _ => default, rfl, .inl rfl, Nat.zero_le _, fun j hj => absurd hj (Nat.not_lt_zero _)⟩
  simp at hm
  subst hm
  have each : ∀ i, i < len → ∃ A : FAct, w.cell? (a.add (i * 2)) = some (.int .i64 A.what) ∧ w.cell? (a.add (i * 2 + 1)) = some (.slice A.bo A.M.length A.cap) ∧ TcAt w w.heap.size A.bo A.M ∧ A.M.length ≤ maxLen := by
    intro i hi
    obtain ⟨cs', h1, h2⟩ := hx i (by omega)
    rw [ce] at h1
    obtain ⟨_, hlen, hcell⟩ := World.cells?_some h1
    obtain ⟨A, rfl, hI, hok⟩ := fact_row he hlen o0 o1 c0 c1 u0 u1 ub cb p0 p1 p2 d0 d1 d2 v0 v1 v2 h2
    have e0 := hcell 0 (by omega)
    have e1 := hcell 1 (by omega)
    rw [add_add] at e0 e1
    exact ⟨A, by simpa using e0, by simpa using e1, hI, hok⟩
  obtain ⟨A, hA⟩ := choose_lt each
  refine ⟨some a, len, m, A, rfl, ?_, Nat.le_trans hl hc, fun i hi => (hA i hi).2.2.2⟩
  rcases Nat.eq_zero_or_pos len with h0 | h0
  · exact .inl h0
  have hs : a.spot = none := by
    have := spot_none (hA 0 h0).1
    unfold Addr.add at this
    simpa using this
  refine .inr ⟨a.block, a.off, by obtain ⟨b, off, sp⟩ := a; cases hs; rfl, fun i hi => ?_⟩
  obtain ⟨q0, q1, q2, _⟩ := hA i hi
  rw [add_at hs] at q0 q1
  exact ⟨q0, q1, q2⟩
theorem fact_val_open {t eb : TypeId} {f0 f1 g0 g1 g2 : Field} {r : Reach} {b0 : Nat} {v : Value} {d : DataW H} {p : List MemPlace} (he : P.underlying t = some (.struct #[f0, f1])) (ce : P.cellsOf t = 2)
    (o0 : f0.offset = 0) (o1 : f1.offset = 1) (c0 : P.cellsOf f0.type = 1) (c1 : P.cellsOf f1.type = 1)
    (u0 : P.underlying f0.type = some (.int .i64)) (u1 : P.underlying f1.type = some (.slice eb)) (ub : P.underlying eb = some (.struct #[g0, g1, g2])) (cb : P.cellsOf eb = 3)
    (p0 : g0.offset = 0) (p1 : g1.offset = 1) (p2 : g2.offset = 2) (d0 : P.cellsOf g0.type = 1) (d1 : P.cellsOf g1.type = 1) (d2 : P.cellsOf g2.type = 1)
    (v0 : P.underlying g0.type = some (.int .i64)) (v1 : P.underlying g1.type = some (.int .i64)) (v2 : P.underlying g2.type = some (.int .u64))
    (hv : Value.okWide P w r b0 t v) (h : DataW.Trod enc P w 0 (fun _ => true) true t v d p) : ∃ A : FAct, v = .agg #[.int .i64 A.what, .slice A.bo A.M.length A.cap] ∧ TcAt w w.heap.size A.bo A.M ∧ A.M.length ≤ maxLen := by
  obtain ⟨cs, rfl, hsz⟩ := okWide_struct he hv
  obtain ⟨fuel, hf⟩ := h
  obtain ⟨A, hA, hI, hok⟩ := fact_row (cs' := cs.toList) he (by rw [Array.length_toList]; exact hsz.trans ce) o0 o1 c0 c1 u0 u1 ub cb p0 p1 p2 d0 d1 d2 v0 v1 v2 hf
  refine ⟨A, ?_, hI, hok⟩
  rw [← Array.toList_inj.1 (show cs.toList = (#[.int .i64 A.what, .slice A.bo A.M.length A.cap] : Array Value).toList from hA)]
end
end Go.Proofs.Ytfojmjkcjdehaaa
namespace Go.Proofs.Ytfojmjkcjdehaaa
open Go Go.RowKit Go.Shelf
attribute [local go_sem] Oper.semAt_some

theorem results_tcct {P : Program} {fn : Func} {p q r s : Tmp} {ty1 ty2 : TypeId} (h : fn.results = #[.tmp s, .cell p ty1, .cell q ty2, .tmp r]) (tmps : Array Value) (w : World) (g1 g2 : Nat) (t1 t2 : TypeId) (c1 c2 : Array Value) (fr1 fr2 : Nat × Nat) (d1 d2 : TypeDesc) (u v : Value)
    (hs : tmps.getD s undef = u) (hp : tmps.getD p undef = .pointer (some ⟨g1, 0, none⟩)) (hq : tmps.getD q undef = .pointer (some ⟨g2, 0, none⟩)) (hr : tmps.getD r undef = v)
    (hg1 : w.heap[g1]? = some (.cells c1 t1 fr1)) (hg2 : w.heap[g2]? = some (.cells c2 t2 fr2))
    (hu1 : P.underlying ty1 = some d1) (hd1 : (match d1 with | .struct _ | .array _ _ => true | _ => false) = true) (hi1 : (P.info? ty1).map (·.size) = some c1.size)
    (hu2 : P.underlying ty2 = some d2) (hd2 : (match d2 with | .struct _ | .array _ _ => true | _ => false) = true) (hi2 : (P.info? ty2).map (·.size) = some c2.size) :
    (results fn tmps).run P w = .ok (.tuple #[u, .agg c1, .agg c2, v]) w := by
  have hp' : tmps[p]?.getD undef = .pointer (some ⟨g1, 0, none⟩) := by simpa using hp
  have hq' : tmps[q]?.getD undef = .pointer (some ⟨g2, 0, none⟩) := by simpa using hq
  have hr' : tmps[r]?.getD undef = v := by simpa using hr
  have hs' : tmps[s]?.getD undef = u := by simpa using hs
  simp [results, h, hp', hq', hr', hs', asAddr, run_loadVar_row w g1 t1 ty1 c1 fr1 d1 hg1 hu1 hd1 hi1, run_loadVar_row w g2 t2 ty2 c2 fr2 d2 hg2 hu2 hd2 hi2]

theorem FD.noT {W : World} {N f d lb sb e : Nat} {L dn : List Tch} {D : Dv} (h : FD W N f d lb sb L dn D) (h0 : e ≠ 109) (h1 : e ≠ 59) (h2 : e ≠ 122) : NoT W e [f, d, lb, sb] := by
  obtain ⟨_, lo, lc, po, pc, hb, _⟩ := h.fib
  intro g cur hg hm
  rcases List.mem_cons.1 hm with rfl | hm
  · rw [hb] at hg
    simp at hg
    exact h0 hg.2.symm
  · exact h.dev.noT h1 h2 (m := [d, lb, sb]) (fun j hj => by simpa using hj) g cur hg hm
/-- both fibres, both devices -/
structure FS (W : World) (N f d lb sb : Nat) (v u : Value) (L dn : List Tch) (D : Dv) : Prop where
  fd : FD W N f d lb sb L dn D
  rf : RFib W N v L dn
  rd : RefAt W u D
theorem FS.ext0 {W W' : World} {N f d lb sb : Nat} {v u : Value} {L dn : List Tch} {D : Dv} (h : FS W N f d lb sb v u L dn D) (hE : Ext [] W W') : FS W' N f d lb sb v u L dn D := ⟨h.fd.ext0 hE, h.rf.ext0 hE, h.rd.ext0 hE⟩
theorem FD.rf {W W' : World} {N f d lb sb : Nat} {v : Value} {L dn L1 dn1 : List Tch} {D : Dv} (h : FD W N f d lb sb L dn D) (hR : RFib W N v L1 dn1) (hE : Ext [f, d, lb, sb] W W') : RFib W' N v L1 dn1 := hR.ext hE h.noTc
theorem FD.rd {W W' : World} {N f d lb sb : Nat} {u : Value} {L dn : List Tch} {D D1 : Dv} (h : FD W N f d lb sb L dn D) (hR : RefAt W u D1) (hE : Ext [f, d, lb, sb] W W') : RefAt W' u D1 := hR.ext hE (h.noT (by decide) (by decide) (by decide)) (h.noT (by decide) (by decide) (by decide))
theorem FD.four {W : World} {N f d lb sb : Nat} {L dn : List Tch} {D : Dv} (h : FD W N f d lb sb L dn D) : ∀ q, q ∈ [f, d, lb, sb] → q < W.heap.size := by
  intro q hq
  have h1 := h.fib.lt
  have h2 := h.dev.lt
  simp at hq
  omega
/-- behind act -/
def ActQ (w : World) (N f d lb sb : Nat) (S : List Tch × List Tch × Dv) (e : Ending) (w' : World) : Prop :=
  ∃ f' v' u', e = .returned (.tuple #[.pointer (some ⟨f', 0, none⟩), v', u', .bool true]) ∧ Ext [f, d, lb, sb] w w' ∧ FS w' N f' d lb sb v' u' S.1 S.2.1 S.2.2 ∧ (f' = f ∨ w.heap.size ≤ f')
/-- act's own blocks -/
structure AcB (m : List Nat) (w W : World) (nb : Nat) (fs ds xs : Array Value) : Prop where
  ext : Ext m w W
  size : w.heap.size = nb
  b0 : W.heap[nb]? = some (.cells fs 96 (0, 0))
  b1 : W.heap[nb + 1]? = some (.cells ds 33 (0, 0))
  b2 : W.heap[nb + 2]? = some (.cells xs 92 (0, 0))
  b3 : W.heap[nb + 3]? = some (.cells #[.slice none 0 0, .int .i64 0] 96 (0, 0))
  b4 : W.heap[nb + 4]? = some (.cells #[.slice none 0 0, .slice none 0 0, .slice none 0 0] 33 (0, 0))
theorem AcB.lt {m : List Nat} {w W : World} {nb : Nat} {fs ds xs : Array Value} (h : AcB m w W nb fs ds xs) : nb + 5 ≤ W.heap.size := lt_of_block h.b4
theorem AcB.ext1 {m m' : List Nat} {w W W' : World} {nb : Nat} {fs ds xs : Array Value} (h : AcB m w W nb fs ds xs) (hE : Ext m' W W') (hm : ∀ q, q ∈ m' → q ∈ m ∧ q < nb ∨ nb + 5 ≤ q) : AcB m w W' nb fs ds xs := by
  have key : ∀ k, nb ≤ k → k < nb + 5 → k ∉ m' := fun k h0 hk hq => by rcases hm _ hq with ⟨_, _⟩ | _ <;> omega
  exact ⟨h.ext.trans' hE (fun q hq => (hm q hq).imp (·.1) (fun h1 => by have := h.size; omega)), h.size, hE.at h.b0 (key _ (by omega) (by omega)), hE.at h.b1 (key _ (by omega) (by omega)), hE.at h.b2 (key _ (by omega) (by omega)), hE.at h.b3 (key _ (by omega) (by omega)), hE.at h.b4 (key _ (by omega) (by omega))⟩
theorem AcB.ext0 {m : List Nat} {w W W' : World} {nb : Nat} {fs ds xs : Array Value} (h : AcB m w W nb fs ds xs) (hE : Ext [] W W') : AcB m w W' nb fs ds xs := h.ext1 hE (fun _ hq => by cases hq)
theorem AcB.start {w : World} (m : List Nat) (fs ds xs : Array Value) : AcB m w (((((w.alloc (.cells fs 96)).alloc (.cells ds 33)).alloc (.cells xs 92)).alloc (.cells #[.slice none 0 0, .int .i64 0] 96)).alloc (.cells #[.slice none 0 0, .slice none 0 0, .slice none 0 0] 33)) w.heap.size fs ds xs := by
  obtain ⟨h1, h2, h3, h4, hs⟩ := al4_heap (w := w) fs ds xs #[.slice none 0 0, .int .i64 0] 96 33 92 96
  refine ⟨(((((Ext.refl m w).alloc _).alloc _).alloc _).alloc _).alloc _, rfl, block_al h1, block_al h2, block_al h3, block_al h4, ?_⟩
  have := World.alloc_heap_new ((((w.alloc (.cells fs 96)).alloc (.cells ds 33)).alloc (.cells xs 92)).alloc (.cells #[.slice none 0 0, .int .i64 0] 96)) (.cells #[.slice none 0 0, .slice none 0 0, .slice none 0 0] 33)
  rwa [hs] at this
/-- act's answers are laid -/
theorem AcB.ret {m : List Nat} {w W : World} {nb : Nat} {fs ds xs : Array Value} (h : AcB m w W nb fs ds xs) (x y a b c : Value) (W9 : World) (hW9 : World.drew (((((W.setCell ⟨nb + 3, 0, none⟩ x).setCell ⟨nb + 3, 1, none⟩ y).setCell ⟨nb + 4, 0, none⟩ a).setCell ⟨nb + 4, 1, none⟩ b).setCell ⟨nb + 4, 2, none⟩ c) = W9) :
    W9.heap[nb + 3]? = some (.cells #[x, y] 96 (0, 0)) ∧ W9.heap[nb + 4]? = some (.cells #[a, b, c] 33 (0, 0)) ∧ Ext m w W9 ∧ Ext [nb + 3, nb + 4] W W9 := by
  obtain ⟨W', hW'⟩ : ∃ W', W' = ((((W.setCell ⟨nb + 3, 0, none⟩ x).setCell ⟨nb + 3, 1, none⟩ y).setCell ⟨nb + 4, 0, none⟩ a).setCell ⟨nb + 4, 1, none⟩ b).setCell ⟨nb + 4, 2, none⟩ c := ⟨_, rfl⟩
  rw [← hW'] at hW9
  have n1 : nb + 3 ≠ nb + 4 := by omega
  obtain ⟨A, hA⟩ : ∃ A, (W.setCell ⟨nb + 3, 0, none⟩ x).setCell ⟨nb + 3, 1, none⟩ y = A := ⟨_, rfl⟩
  rw [hA] at hW'
  have a2 : A.heap[nb + 3]? = some (.cells #[x, y] 96 (0, 0)) := by rw [← hA]; exact pair_set1 (pair_set0 h.b3)
  have a3 : A.heap[nb + 4]? = some (.cells #[.slice none 0 0, .slice none 0 0, .slice none 0 0] 33 (0, 0)) := by rw [← hA]; exact block_sc (a := ⟨nb + 3, 1, none⟩) n1.symm (block_sc (a := ⟨nb + 3, 0, none⟩) n1.symm h.b4)
  have eA : Ext [nb + 3, nb + 4] W A := by rw [← hA]; exact ((Ext.refl _ W).setCell (p := ⟨nb + 3, 0, none⟩) (.inl (by simp)) _).setCell (p := ⟨nb + 3, 1, none⟩) (.inl (by simp)) _
  clear hA
  have c2 : W'.heap[nb + 3]? = some (.cells #[x, y] 96 (0, 0)) := by rw [hW']; exact block_sc (a := ⟨nb + 4, 2, none⟩) n1 (block_sc (a := ⟨nb + 4, 1, none⟩) n1 (block_sc (a := ⟨nb + 4, 0, none⟩) n1 a2))
  have c3 : W'.heap[nb + 4]? = some (.cells #[a, b, c] 33 (0, 0)) := by rw [hW']; exact tri_set a3 a b c
  have e : Ext [nb + 3, nb + 4] W W' := by rw [hW']; exact ext_three eA (g := nb + 4) (.inl (by simp)) a b c
  clear hW'
  subst hW9
  exact ⟨c2, c3, (h.ext.trans' e (fun j hj => .inr (by have := h.size; simp at hj; omega))).drew, e.drew⟩
/-- the same, no order drawn -/
theorem AcB.ret' {m : List Nat} {w W : World} {nb : Nat} {fs ds xs : Array Value} (h : AcB m w W nb fs ds xs) (x y a b c : Value) (W9 : World) (hW9 : (((((W.setCell ⟨nb + 3, 0, none⟩ x).setCell ⟨nb + 3, 1, none⟩ y).setCell ⟨nb + 4, 0, none⟩ a).setCell ⟨nb + 4, 1, none⟩ b).setCell ⟨nb + 4, 2, none⟩ c) = W9) :
    W9.heap[nb + 3]? = some (.cells #[x, y] 96 (0, 0)) ∧ W9.heap[nb + 4]? = some (.cells #[a, b, c] 33 (0, 0)) ∧ Ext m w W9 ∧ Ext [nb + 3, nb + 4] W W9 := by
  obtain ⟨W', hW'⟩ : ∃ W', W' = ((((W.setCell ⟨nb + 3, 0, none⟩ x).setCell ⟨nb + 3, 1, none⟩ y).setCell ⟨nb + 4, 0, none⟩ a).setCell ⟨nb + 4, 1, none⟩ b).setCell ⟨nb + 4, 2, none⟩ c := ⟨_, rfl⟩
  rw [← hW'] at hW9
  have n1 : nb + 3 ≠ nb + 4 := by omega
  obtain ⟨A, hA⟩ : ∃ A, (W.setCell ⟨nb + 3, 0, none⟩ x).setCell ⟨nb + 3, 1, none⟩ y = A := ⟨_, rfl⟩
  rw [hA] at hW'
  have a2 : A.heap[nb + 3]? = some (.cells #[x, y] 96 (0, 0)) := by rw [← hA]; exact pair_set1 (pair_set0 h.b3)
  have a3 : A.heap[nb + 4]? = some (.cells #[.slice none 0 0, .slice none 0 0, .slice none 0 0] 33 (0, 0)) := by rw [← hA]; exact block_sc (a := ⟨nb + 3, 1, none⟩) n1.symm (block_sc (a := ⟨nb + 3, 0, none⟩) n1.symm h.b4)
  have eA : Ext [nb + 3, nb + 4] W A := by rw [← hA]; exact ((Ext.refl _ W).setCell (p := ⟨nb + 3, 0, none⟩) (.inl (by simp)) _).setCell (p := ⟨nb + 3, 1, none⟩) (.inl (by simp)) _
  clear hA
  have c2 : W'.heap[nb + 3]? = some (.cells #[x, y] 96 (0, 0)) := by rw [hW']; exact block_sc (a := ⟨nb + 4, 2, none⟩) n1 (block_sc (a := ⟨nb + 4, 1, none⟩) n1 (block_sc (a := ⟨nb + 4, 0, none⟩) n1 a2))
  have c3 : W'.heap[nb + 4]? = some (.cells #[a, b, c] 33 (0, 0)) := by rw [hW']; exact tri_set a3 a b c
  have e : Ext [nb + 3, nb + 4] W W' := by rw [hW']; exact ext_three eA (g := nb + 4) (.inl (by simp)) a b c
  clear hW'
  subst hW9
  exact ⟨c2, c3, h.ext.trans' e (fun j hj => .inr (by have := h.size; simp at hj; omega)), e⟩
theorem AcB.fin {m : List Nat} {w W W' : World} {nb N f d lb sb : Nat} {fs ds xs : Array Value} (h : AcB m w W nb fs ds xs) (hN : N ≤ nb) (hE : Ext [nb + 3, nb + 4] W W') {v u : Value} {L dn : List Tch} {D : Dv} (hS : FS W N f d lb sb v u L dn D) : FS W' N f d lb sb v u L dn D := by
  have key : ∀ (g : Nat) (cur : Array Value) (e : TypeId), W.heap[g]? = some (.cells cur e (0, 0)) → e ≠ 96 → e ≠ 33 → g ∉ [nb + 3, nb + 4] := fun g cur e hg h1 h2 hm => by
    simp at hm
    rcases hm with rfl | rfl
    · rw [h.b3] at hg; simp at hg; exact h1 hg.2.symm
    · rw [h.b4] at hg; simp at hg; exact h2 hg.2.symm
  have hno : NoTc W N [nb + 3, nb + 4] := fun q hq => by
    refine .inr ⟨by simp at hq; omega, fun cur hb => key q cur 82 hb (by decide) (by decide) hq⟩
  have hfib := hS.fd.fib
  obtain ⟨_, lo, lc, po, pc, hb, _⟩ := hfib
  have hD := hS.fd.dev
  obtain ⟨⟨cl, cs', wv, g1, _⟩, ⟨c2, g2, _⟩, ⟨c3, g3, _⟩, _⟩ := hD
  refine ⟨⟨hS.fd.fib.ext hE (key _ _ _ hb (by decide) (by decide)) hno, hS.fd.dev.ext hE (key _ _ _ g1 (by decide) (by decide)) (key _ _ _ g2 (by decide) (by decide)) (key _ _ _ g3 (by decide) (by decide)) (fun g cur hg => key _ _ _ hg (by decide) (by decide)), hS.fd.ok, hS.fd.hd, hS.fd.hl, hS.fd.hs⟩, hS.rf.ext hE hno, hS.rd.ext hE (fun g cur hg => key _ _ _ hg (by decide) (by decide)) (fun g cur hg => key _ _ _ hg (by decide) (by decide))⟩
end Go.Proofs.Ytfojmjkcjdehaaa
