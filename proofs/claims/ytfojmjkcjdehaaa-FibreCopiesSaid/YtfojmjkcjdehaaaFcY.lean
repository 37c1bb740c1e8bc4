/- FibreCopies: for every list of touches, every list of calls, any two calls behind and every number the law returns true and writes nothing that was there. Conditions: none. Ahead of it its lemmas and its walk (printed by wip/mkFx.py). -/
import Derived.Test.YtfojmjkcjdehaaaFcD
import Derived.Test.YtfojmjkcjdehaaaRwC
import Derived.Test.YtfojmjkcjdehaaaOr4
import Derived.Test.YtfojmjkcjdehaaaCnt
import Derived.Test.YtfojmjkcjdehaaaSlr
import Derived.Test.YtfojmjkcjdehaaaRows
import Derived.Deep.CutRange
import Derived.Deep.AppendLies
import Derived.Lib.MinMax
import Derived.WalkKit
import Derived.ProofKit
import Derived.OpenShut
import Derived.ShutString
import Derived.ChangeOld
import Derived.Deep.SlicePairs
namespace Go.Proofs.Ytfojmjkcjdehaaa
open Go Go.RowKit Go.Shelf
attribute [local go_sem] Oper.semAt_some

theorem TcAt.up {w : World} {N N' : Nat} {ao : Option Addr} {L : List Tch} (h : TcAt w N ao L) (hN : N ≤ N') : TcAt w N' ao L :=
  ⟨h.1, h.2.imp id (fun h2 p hp => ⟨(h2 p hp).1, (h2 p hp).2.imp (fun h => Nat.lt_of_lt_of_le h hN) id⟩)⟩
/-- an act's cells -/
def factR (a : FAct) : List Value := [.int .i64 a.what, .slice a.bo a.M.length a.cap]
theorem factR_ok (n : Nat) (A : Nat → FAct) : RowOk n 2 (fun i => factR (A i)) := ⟨fun _ _ => rfl, fun i _ u hu => by simp [factR] at hu; rcases hu with rfl | rfl <;> rfl⟩
theorem FActs.row {w : World} {N : Nat} {ao : Option Addr} {n : Nat} {A : Nat → FAct} (h : FActs w N ao n A) : RowAt w ao n 2 (fun i => factR (A i)) := by
  rcases h with h | ⟨b, off, h1, h2⟩
  · exact .inl h
  · refine .inr ⟨b, off, h1, fun i hi j hj => ?_⟩
    obtain ⟨q0, q1, _⟩ := h2 i hi
    match j, hj with
    | 0, _ => exact q0
    | 1, _ => exact q1
theorem FActs.of_row {w : World} {N : Nat} {ao : Option Addr} {n : Nat} {A : Nat → FAct} (h : RowAt w ao n 2 (fun i => factR (A i))) (hI : ∀ i, i < n → TcAt w N (A i).bo (A i).M) : FActs w N ao n A := by
  rcases h with h | ⟨b, off, h1, h2⟩
  · exact .inl h
  · exact .inr ⟨b, off, h1, fun i hi => ⟨h2 i hi 0 (by omega), h2 i hi 1 (by omega), hI i hi⟩⟩
/-- two acts behind -/
def behindF (A : Nat → FAct) (n : Nat) (x y : FAct) : Nat → FAct := fun i => if i < n then A i else if i = n then x else y
theorem behindF_rows (A : Nat → FAct) (n : Nat) (x y : FAct) : rowC (fun i => factR (behindF A n x y i)) (n + 2) = [] ++ rowC (fun i => factR (A i)) n ++ (factR x ++ factR y) := by
  have h1 : behindF A n x y n = x := by simp [behindF]
  have h2 : behindF A n x y (n + 1) = y := by unfold behindF; rw [if_neg (by omega), if_neg (by omega)]
  rw [rowC, rowC, h1, h2, rowC_congr (R' := fun i => factR (A i)) (fun i hi => by simp [behindF, hi])]
  simp
theorem behindF_any {A : Nat → FAct} {n : Nat} {x y : FAct} {p : FAct → Prop} (h : ∀ i, i < n → p (A i)) (hx : p x) (hy : p y) : ∀ i, p (behindF A n x y i) := fun i => by
  unfold behindF
  split
  · exact h i ‹_›
  · split
    · exact hx
    · exact hy
theorem behindF_acts {w6 : World} {N base : Nat} {v : Value} {A : Nat → FAct} {n : Nat} {x y : FAct} (ho : w6.ownsRow base 92 2 v (0 + n + 2) ([] ++ rowC (fun i => factR (A i)) n ++ (factR x ++ factR y)))
    (hI : ∀ i, i < n + 2 → TcAt w6 N (behindF A n x y i).bo (behindF A n x y i).M) : ∃ bo bcap, v = .slice bo (n + 2) bcap ∧ FActs w6 N bo (n + 2) (behindF A n x y) := by
  rw [← behindF_rows, Nat.zero_add] at ho
  obtain ⟨bo, bcap, h1, h2, _⟩ := RowAt.of_owns (factR_ok (n + 2) (behindF A n x y)) ho
  exact ⟨bo, bcap, h1, FActs.of_row h2 hI⟩
theorem infoFact : (Try.prog.info? 92).map (fun i => (i.zero, i.size, i.bytes)) = some (some (.agg #[.int .i64 0, .slice none 0 0]), 2, 32) := by kernel_rfl
/-- behind a call whose answers are laid in the law's own cells -/
theorem FP.step2 {w wr w5 W' : World} {f d lb sb h g f' : Nat} {L dn : List Tch} {D : Dv} {k k' : Nat} {S : List Tch × List Tch × Dv} {x y a b c : Value} (hp : FP w wr f d lb sb h g L dn D k) (hE : Ext [f, d, lb, sb] wr w5) (hS : FS w5 w.heap.size f' d lb sb (.agg #[x, y]) (.agg #[a, b, c]) S.1 S.2.1 S.2.2) (hf : f' = f ∨ wr.heap.size ≤ f') (hok : FOk S.1 S.2.1 S.2.2 k')
    (hW : ((((w5.setCell ⟨h, 0, none⟩ x).setCell ⟨h, 1, none⟩ y).setCell ⟨g, 0, none⟩ a).setCell ⟨g, 1, none⟩ b).setCell ⟨g, 2, none⟩ c = W') : FP w W' f' d lb sb h g S.1 S.2.1 S.2.2 k' := by
  obtain ⟨x1, y1, a1, b1, c1, h1, h2, _⟩ := hp.fc.ex
  obtain ⟨hn1, hn2⟩ := hp.fc.ne
  obtain ⟨hc, hE2⟩ := FC.lay hS (hE.at h1 hn1) (hE.at h2 hn2) (Nat.le_of_lt hp.hh) (Nat.le_of_lt hp.hg) hW
  obtain ⟨k1, k2⟩ := hp.extD hE
  have := lt_of_block hp.res
  refine ⟨hc, hok, hE2.at k2 (by have := hp.hh; have := hp.hg; simp; omega), k1.trans' hE2 (fun j hj => .inr (by have := hp.hh; have := hp.hg; simp at hj; omega)), ?_, hp.hd, hp.hl, hp.hs, hp.hh, hp.hg⟩
  have := hp.hf
  omega
/-- behind the region in which an act is done to fibre c and a copy of the device: new cells o, q -/
structure AcS (w2 wx : World) (N c c2 l2 s2 c' o q : Nat) (S : List Tch × List Tch × Dv) : Prop where
  fc : FC wx N c' c2 l2 s2 o q S.1 S.2.1 S.2.2
  ext : Ext [c] w2 wx
  hf : c' = c ∨ w2.heap.size ≤ c'
  h1 : w2.heap.size ≤ c2
  h2 : w2.heap.size ≤ l2
  h3 : w2.heap.size ≤ s2
  ho : w2.heap.size ≤ o
  hq : w2.heap.size ≤ q
theorem AcS.of {w2 W W' : World} {N c c2 l2 s2 c' o q : Nat} {S : List Tch × List Tch × Dv} {x y a b z x0 y0 a0 b0 c0 : Value} (hE : Ext [c] w2 W) (hf : c' = c ∨ w2.heap.size ≤ c') (h123 : w2.heap.size ≤ c2 ∧ w2.heap.size ≤ l2 ∧ w2.heap.size ≤ s2) (hN : N ≤ w2.heap.size) (hS : FS W N c' c2 l2 s2 (.agg #[x, y]) (.agg #[a, b, z]) S.1 S.2.1 S.2.2) (hp : W.heap[o]? = some (.cells #[x0, y0] 96 (0, 0))) (hq : W.heap[q]? = some (.cells #[a0, b0, c0] 33 (0, 0))) (p1 : w2.heap.size ≤ o) (q1 : w2.heap.size ≤ q)
    (hW : ((((W.setCell ⟨o, 0, none⟩ x).setCell ⟨o, 1, none⟩ y).setCell ⟨q, 0, none⟩ a).setCell ⟨q, 1, none⟩ b).setCell ⟨q, 2, none⟩ z = W') : AcS w2 W' N c c2 l2 s2 c' o q S := by
  obtain ⟨h1, h2⟩ := FC.lay hS hp hq (by omega) (by omega) hW
  exact ⟨h1, hE.trans' h2 (fun j hj => .inr (by simp at hj; omega)), hf, h123.1, h123.2.1, h123.2.2, p1, q1⟩
theorem act_ext {w2 W Wn : World} {c c2 l2 s2 : Nat} (hX : Ext [] w2 W) (hY : Ext [c, c2, l2, s2] W Wn) (h : w2.heap.size ≤ c2 ∧ w2.heap.size ≤ l2 ∧ w2.heap.size ≤ s2) : Ext [c] w2 Wn :=
  hX.wide.trans' hY (fun j hj => by
    simp only [List.mem_cons, List.not_mem_nil, or_false] at hj
    rcases hj with rfl | rfl | rfl | rfl
    · exact .inl (by simp)
    · exact .inr h.1
    · exact .inr h.2.1
    · exact .inr h.2.2)
theorem op_append_any {P : Program} {w : World} {o : Oper} {a : Act} {K : Act → World → Prop} {Q : Exit → Act → World → Prop} (s x : Operand) (t : TypeId)
    (ho : o.op = .call { callee := .builtin .append, args := #[s, x], argTypes := #[t, t] })
    (base : Nat) (e : TypeId) (i : TypeInfo) (z : Value) (size bytes : Nat) (ht : P.underlying t = some (.slice e)) (hi : P.info? e = some i) (hz : i.zero = some z)
    (hsize : i.size = size) (hby : i.bytes = bytes) (hzs : z.cells.size = size) (hsz : 0 < size)
    (v : Value) (n : Nat) (xs : List Value) (hs : a.eval s = v) (hown : w.ownsRow base e size v n xs)
    (xo : Option Addr) (m c : Nat) (news : List Value) (hx : a.eval x = .slice xo m c) (hsrc : RowSrc w xo m size news) (h63 : n + m ≤ maxLen) (hbytes : (n + m) * bytes ≤ 140737488355328) (hbase : base ≤ w.heap.size)
    (h : ∀ v' w', w'.ownsRow base e size v' (n + m) (xs ++ news) → Ext v.ownBlock.toList w w' → (∀ w0, Ext [] w0 w → w0.heap.size ≤ base → Ext [] w0 w') → K (a.put o.dst v') w') : Oper.wp P o a w K Q := by
  obtain ⟨v', w', hr, h2, h3, _⟩ := append_any (P := P) w base t o.type e i z size bytes ht hi hz hsize hby hzs hsz v n xs hown xo m c news hsrc h63 hbytes hbase
  unfold Oper.wp execOp
  simp only [ho, resolve, invoke, builtin, Sem.run_bind, Sem.run_pure, Result.andThen_ok, List.map_toArray, List.map_cons, List.map_nil, hs, hx, hr]
  exact h v' w' h2 h3 (fun w0 hE hb => hE.trans' h3 (fun j hj => .inr (Nat.le_trans hb (hown.lt j (by simpa using hj)).1)))
theorem FibAt.noT {w : World} {N f e : Nat} {L dn : List Tch} (h : FibAt w N f L dn) (he : e ≠ 109) : NoT w e [f] := by
  obtain ⟨_, lo, lc, po, pc, hb, _⟩ := h
  intro g cur hg hm
  simp at hm
  subst hm
  rw [hb] at hg
  simp at hg
  exact he hg.2.symm
/-- another fibre is written -/
theorem FC.extC {W W' : World} {N f d lb sb h g c : Nat} {L dn L2 dn2 : List Tch} {D : Dv} (hc : FC W N f d lb sb h g L dn D) (hE : Ext [c] W W') (hF : FibAt W N c L2 dn2) (hne : f ≠ c) : FC W' N f d lb sb h g L dn D := by
  obtain ⟨x, y, a, b, cc, h1, h2, h3⟩ := hc.ex
  exact ⟨x, y, a, b, cc, hE.at h1 (hF.noT (by decide) _ _ h1), hE.at h2 (hF.noT (by decide) _ _ h2), ⟨h3.fd.fib.ext hE (by simp [hne]) hF.noTc, h3.fd.dev.extF hE hF, h3.fd.ok, h3.fd.hd, h3.fd.hl, h3.fd.hs⟩, h3.rf.ext hE hF.noTc, h3.rd.ext hE (hF.noT (by decide)) (hF.noT (by decide))⟩
theorem DKB.extC {W W' : World} {N bw c : Nat} {v : Value} {ao : Option Addr} {L L2 dn2 : List Tch} (h : DKB bw N v ao L W) (hE : Ext [c] W W') (hF : FibAt W N c L2 dn2) (hne : bw ≠ c) : DKB bw N v ao L W' := ⟨hE.cell h.1 (by simp [hne]), h.2.ext hE hF.noTc⟩
theorem DKB.ext0 {W W' : World} {N bw : Nat} {v : Value} {ao : Option Addr} {L : List Tch} (h : DKB bw N v ao L W) (hE : Ext [] W W') : DKB bw N v ao L W' := ⟨hE.cell h.1 (by simp), h.2.ext0 hE⟩
theorem DKB.lt {W : World} {N bw : Nat} {v : Value} {ao : Option Addr} {L : List Tch} (h : DKB bw N v ao L W) : bw < W.heap.size := World.block_lt_of_cell? _ _ h.1
theorem actF_len (x : FAct) (L dn : List Tch) (D : Dv) {k : Nat} (h : FOk L dn D k) (hx : x.M.length ≤ 20) (hk : k ≤ 420) : ((actF x L dn D).2.1 ++ (actF x L dn D).1).length ≤ 1000000 := Nat.le_trans (h.act x hx).len (by omega)
theorem decide_swap (d1 d2 L1 L2 : List Tch) : (decide (d2 = d1) && decide (L2 = L1)) = (decide (d1 = d2) && decide (L1 = L2)) := by
  rw [show decide (d2 = d1) = decide (d1 = d2) from decide_eq_decide.2 ⟨Eq.symm, Eq.symm⟩, show decide (L2 = L1) = decide (L1 = L2) from decide_eq_decide.2 ⟨Eq.symm, Eq.symm⟩]
theorem app_len {A B : List Tch} {n : Nat} (h : (A ++ B).length ≤ n) : A.length ≤ n ∧ B.length ≤ n := by
  rw [List.length_append] at h
  omega
end Go.Proofs.Ytfojmjkcjdehaaa
namespace Go.Proofs.Ytfojmjkcjdehaaa
open Go Go.RowKit Go.Shelf
attribute [local go_sem] Oper.semAt_some

set_option maxRecDepth 100000 in
set_option maxHeartbeats 16000000 in
theorem fb_copies (lo : Option Addr) (lc : Nat) (L0 : List Tch) (ao : Option Addr) (n cap : Nat) (A : Nat → FAct) (x y : FAct) (many : Int) (w : World) (hL : TcAt w w.heap.size lo L0) (hp : FActs w w.heap.size ao n A) (hr : n * 32 ≤ 140737488351232) (hl : L0.length ≤ maxLen) (hA : ∀ i, i < n → (A i).M.length ≤ maxLen)
    (hxi : TcAt w w.heap.size x.bo x.M) (hyi : TcAt w w.heap.size y.bo y.M) (hx : x.M.length ≤ maxLen) (hy : y.M.length ≤ maxLen) :
    Calls Try.prog 10 #[.slice lo L0.length lc, .slice ao n cap, .agg #[.int .i64 x.what, .slice x.bo x.M.length x.cap], .agg #[.int .i64 y.what, .slice y.bo y.M.length y.cap], .int .i64 many] w fun e w' => e = .returned (.bool true) ∧ Ext [] w w' := by
  unfold maxLen at hl hA hx hy
  have HW := Lib.hid fb_works
  obtain ⟨nb, hnb⟩ : ∃ nb, w.heap.size = nb := ⟨_, rfl⟩
  have fin : Hid (∀ (Ds : List Nat) (W : World) (x : Value), (∀ D ∈ Ds, W.heap[D]? = some (.deferred (some [])) ∧ nb + 3 < D) → Ds.Nodup → W.heap[nb + 3]? = some (.cells #[x] 4 (0, 0)) → Ext [] w W → ∀ tmps : Array Value, tmps.getD 10 undef = .pointer (some ⟨nb + 3, 0, none⟩) →
      LeavesInM Fence.wide 0 Try.prog Try.f10 tmps (fun e w' => e = .returned (.bool true) ∧ Ext [] w w') (Ds.map fun D => { target := .collected D, args := #[] }) .returning (W.setCell ⟨nb + 3, 0, none⟩ (.bool true))) := by
    intro Ds W x hD hnd hb hE tmps ht
    obtain ⟨W5, hW5⟩ : ∃ W5, W5 = W.setCell ⟨nb + 3, 0, none⟩ (.bool true) := ⟨_, rfl⟩
    have b5 : W5.heap[nb + 3]? = some (.cells #[.bool true] 4 (0, 0)) := by rw [hW5]; exact cell1_set hb _
    have e5 : Ext [] w W5 := by rw [hW5]; exact hE.setCell (.inr (show _ ≤ nb + 3 by omega)) _
    have d5 : ∀ D ∈ Ds, W5.heap[D]? = some (.deferred (some [])) := fun D hd => by rw [hW5]; exact block_sc (show D ≠ nb + 3 by have := (hD D hd).2; omega) (hD D hd).1
    rw [← hW5]
    exact leaves_marks (v := .bool true) Ds W5 d5 hnd (fun w' hE' => ⟨results_cellb Try.results10 _ _ ⟨nb + 3, 0, none⟩ _ (by kernel_rfl) ht (hE'.cell (cell_of (j := 0) b5 rfl) (fun hm => by have := (hD _ hm).2; simp at this)), rfl, e5.trans' hE' (fun j hj => .inr (by have := (hD j hj).2; omega))⟩)
  obtain ⟨w3, hw3⟩ : ∃ w3, ((w.alloc (.cells #[.int .i64 x.what, .slice x.bo x.M.length x.cap] 92)).alloc (.cells #[.int .i64 y.what, .slice y.bo y.M.length y.cap] 92)).alloc (.cells #[.int .i64 many] 3) = w3 := ⟨_, rfl⟩
  obtain ⟨w0, hw0⟩ : ∃ w0, w3.alloc (.cells #[.bool false] 4) = w0 := ⟨_, rfl⟩
  have hE3 : Ext [] w w3 := by rw [← hw3]; exact (((Ext.refl [] w).alloc _).alloc _).alloc _
  have hE0 : Ext [] w3 w0 := by rw [← hw0]; exact (Ext.refl _ _).alloc _
  have hs3 : w3.heap.size = nb + 3 := by rw [← hw3, ← hnb]; simp
  obtain ⟨b0, b1, b2, b3, _⟩ := al4_heap (w := w) #[.int .i64 x.what, .slice x.bo x.M.length x.cap] #[.int .i64 y.what, .slice y.bo y.M.length y.cap] #[.int .i64 many] #[.bool false] 92 92 3 4
  rw [hw3, hw0, hnb] at b0 b1 b2 b3
  have H0 := Lib.hid (And.intro hE3 (And.intro hE0 (And.intro hs3 (And.intro (And.intro b0 (And.intro b1 (And.intro b2 b3))) hnb))))
  obtain ⟨c1, hc1⟩ : ∃ c1, decide ((20 : Int) < (L0.length : Int)) = c1 := ⟨_, rfl⟩
  obtain ⟨m, hm⟩ : ∃ m, L0.length = m := ⟨_, rfl⟩
  obtain ⟨tc, htc⟩ : ∃ tc, tcheck L0 = tc := ⟨_, rfl⟩
  obtain ⟨fw, hfw⟩ : ∃ fw, fewF (n + 2) (behindF A n x y) 22 = fw := ⟨_, rfl⟩
  have HP := Lib.hid (And.intro hp (And.intro hL (And.intro hm (And.intro hxi (And.intro hyi (And.intro hl htc))))))
  have HCK := Lib.hid (fun W (hE : Ext [] w0 W) => ts_Check w.heap.size lo lc L0 W (hL.ext0 ((hE3.trans hE0).trans hE)) hl)
  have HF := Lib.hid (fun (W : World) (bo : Option Addr) (bcap : Nat) (hq : FActs W w.heap.size bo (n + 2) (behindF A n x y)) => fb_few bo (n + 2) bcap (behindF A n x y) 22 W w.heap.size hq (by omega) (fun i _ => behindF_any (p := fun a => a.M.length ≤ 9223372036854775807) hA hx hy i))
  have HI : Hid (∀ W, Ext [] w0 W → ∀ i, i < n + 2 → TcAt W w.heap.size (behindF A n x y i).bo (behindF A n x y i).M) := by
    intro W hE i hi
    have hEW := (hE3.trans hE0).trans hE
    unfold behindF
    split
    · exact (hp.tc ‹_›).ext0 hEW
    · split
      · exact hxi.ext0 hEW
      · exact hyi.ext0 hEW
  have HSA : Hid (RowSrc w0 ao n 2 (rowC (fun i => factR (A i)) n)) := (hp.row.src (factR_ok n A)).ext (hE3.trans hE0) (fun _ _ => by simp)
  have HSZ : Hid (n * 32 ≤ 140737488351232) := hr
  obtain ⟨t0, t1, t2, _⟩ := al3_heap (w := w) #[.int .i64 x.what, .slice x.bo x.M.length x.cap] #[.int .i64 y.what, .slice y.bo y.M.length y.cap] #[.int .i64 many] 92 92 3
  rw [hw3, hnb] at t0 t1 t2
  have HB3 : Hid (∀ W, Ext [] w3 W → W.heap[nb]? = some (.cells #[.int .i64 x.what, .slice x.bo x.M.length x.cap] 92 (0, 0)) ∧ W.heap[nb + 1]? = some (.cells #[.int .i64 y.what, .slice y.bo y.M.length y.cap] 92 (0, 0)) ∧ W.heap[nb + 2]? = some (.cells #[.int .i64 many] 3 (0, 0))) := fun W hE => ⟨hE.at t0 (by simp), hE.at t1 (by simp), hE.at t2 (by simp)⟩
  clear t0 t1 t2
  have HB : Hid (∀ W, Ext [] w0 W → W.heap[nb]? = some (.cells #[.int .i64 x.what, .slice x.bo x.M.length x.cap] 92 (0, 0)) ∧ W.heap[nb + 1]? = some (.cells #[.int .i64 y.what, .slice y.bo y.M.length y.cap] 92 (0, 0)) ∧ W.heap[nb + 2]? = some (.cells #[.int .i64 many] 3 (0, 0))) := fun W hE => ⟨hE.at b0 (by simp), hE.at b1 (by simp), hE.at b2 (by simp)⟩
  have HRX : Hid (∀ W, Ext [] w0 W → W.cell? ⟨nb, 0, none⟩ = some (.int .i64 x.what) ∧ W.cell? ⟨nb, 1, none⟩ = some (.slice x.bo x.M.length x.cap) ∧ W.cell? ⟨nb + 1, 0, none⟩ = some (.int .i64 y.what) ∧ W.cell? ⟨nb + 1, 1, none⟩ = some (.slice y.bo y.M.length y.cap)) := fun W hE => by
    obtain ⟨h1, h2⟩ := pair' (hE.at b0 (by simp))
    obtain ⟨h3, h4⟩ := pair' (hE.at b1 (by simp))
    exact ⟨h1, h2, h3, h4⟩
  rw [hm] at hc1 HCK ⊢
  rw [htc] at HCK
  rw [hfw] at HF
  clear hE3 hE0 hs3 b0 b1 b2 b3 hp hL hxi hyi hx hy hl hA hr hm htc
  obtain ⟨i0, hi, hz0, hz1, hz2⟩ := info_parts infoFact
  have hI1 := Lib.hid hi
  have hI2 := Lib.hid hz0
  have hI3 := Lib.hid hz1
  have hI4 := Lib.hid hz2
  have HFW := Lib.hid hfw
  clear hi hz0 hz1 hz2 hfw
  obtain ⟨Bq, hBq⟩ : ∃ Bq, (c1 || (!fw || (tc != 0))) = Bq := ⟨_, rfl⟩
  refine (callsIn_wide (n := 0)).1 (callsIn_of_wp_marks Try.func10 rfl trivial ?_ rfl)
  simp only [Try.ntmps10, List.size_toArray, List.length_cons, List.length_nil, Nat.reduceAdd, Nat.reduceSub, Array.replicate_succ, Array.replicate_zero, List.push_toArray, List.append_toArray, List.nil_append, List.cons_append]
  refine wpIn_wide.2 (wp_mono (Q := NoPanic (bodyPostM Fence.wide 0 Try.prog Try.f10 fun e w' => e = .returned (.bool true) ∧ Ext [] w w')) ?_ NoPanic.out)
  go_upto_region 1 with fail
  try rw [hw3]
  try rw [hw0]
  try rw [hnb]
  try rw [H0.out.2.2.1]
  try simp only [Nat.add_assoc, Nat.reduceAdd]
  clear hw3 hw0
  go_cut [47] from 29 to 47 (fun s wx => s = .bool Bq ∧ Ext [] w0 wx)
  case first =>
    cases c1 with
    | true =>
      have hB : Bq = true := by rw [← hBq]; rfl
      refine wp_region_p4 [] (hds4 [0, 1, 2, 3, 4, 5, 6, 7, 8, 9, 10, 11, 12, 13, 14, 15, 16, 17] (.tl 18 .done)) (Ext [] w0) (by kernel_rfl) (by kernel_rfl) (fun _ d _ _ _ h => by cases d <;> exact h) (Ext.refl _ _).drew ?_
      repeat (first
        | (refine wpPl_no4 rfl (by rfl) ?_; simp only [Act.put, List.setIfInBounds_toArray, List.set_cons_zero, List.set_cons_succ])
        | (refine wpPl_hd4 ?_ rfl (by rfl) (fun w hSw => ?_) ?_
           rotate_left
           · (clear hSw; go_simp; first | exact ⟨rfl, rfl⟩ | exact rfl)
           simp only [Act.put, List.setIfInBounds_toArray, List.set_cons_zero, List.set_cons_succ]))
      refine wpPl_tl4 rfl (by rfl) (fun K hK => ?_)
      go_simp
      refine hK _ _ (fun _ => (Ext.refl [] w0).drew) ?_
      clear hK K
      try simp only [Act.put, List.setIfInBounds_toArray, List.set_cons_zero, List.set_cons_succ]
      refine wpPl_done4 ?_
      go_wp2_with fail
      go_meet
      exact ⟨by rw [hB], (Ext.refl [] w0).drew⟩
    | false =>
      cases fw with
      | false =>
        have hB : Bq = true := by rw [← hBq]; rfl
        subst hB
        refine wp_region_p4 [] (hds4 [0, 1, 2, 3, 5, 7, 8] (.two 4 (.two 6 (.tl 9 (.tl 10 (.tl 11 (hds4 [12, 13, 14, 15, 16, 17] (.tl 18 .done))))) 9 (.tl 6 (.tl 10 (.tl 11 (hds4 [12, 13, 14, 15, 16, 17] (.tl 18 .done)))))) 9 (.tl 4 (.tl 6 (.tl 10 (.tl 11 (hds4 [12, 13, 14, 15, 16, 17] (.tl 18 .done)))))))) (Ext [] w0) (by kernel_rfl) (by kernel_rfl) (fun _ d _ _ _ h => by cases d <;> exact h) (Ext.refl _ _).drew ?_
        repeat (first
          | (refine wpPl_hd4 ?_ rfl (by rfl) (fun w hSw => ?_) ?_
             rotate_left
             · (obtain ⟨r0, r1, r2, r3⟩ := HRX.out _ hSw; clear hSw; go_simp; first | exact ⟨rfl, rfl⟩ | exact rfl)
             simp only [Act.put, List.setIfInBounds_toArray, List.set_cons_zero, List.set_cons_succ]))
        obtain ⟨V0, hV0⟩ : ∃ V0, w0.drew = V0 := ⟨_, rfl⟩
        have HN0 : Hid (Ext [] w0 V0 ∧ True) := ⟨by rw [← hV0]; exact (Ext.refl _ _).drew, trivial⟩
        rw [hV0]
        clear hV0
        refine wpPl_two4 ?_ ?_
        · refine wpPl_tl4 rfl (by rfl) (fun K hK => ?_)
          go_simp
          obtain ⟨V1, hW1⟩ : ∃ V1, V0.alloc (.cells #[] 92) = V1 := ⟨_, rfl⟩
          obtain ⟨ba, hba⟩ : ∃ ba, V0.heap.size = ba := ⟨_, rfl⟩
          have hY1 : Ext [] V0 V1 := by rw [← hW1]; exact (Ext.refl _ _).alloc _
          have hZ1 : V1.heap[ba]? = some (.cells #[] 92 (0, 0)) := by rw [← hW1, ← hba]; exact World.alloc_heap_new _ _
          have HN1 := Lib.hid (And.intro (HN0.out.1.trans hY1) (And.intro hZ1 (show w0.heap.size ≤ ba by have := HN0.out.1.size; omega)))
          try rw [hW1]
          try rw [hba]
          refine hK _ _ (fun _ => HN1.out.1) ?_
          clear hK K hY1 hZ1 hW1 hba
          try simp only [Act.put, List.setIfInBounds_toArray, List.set_cons_zero, List.set_cons_succ]
          refine wpPl_two4 ?_ ?_
          · refine wpPl_tl4 rfl (by rfl) (fun K hK => ?_)
            refine op_append_any (.tmp 33) (.tmp 34) 90 (by rfl) w0.heap.size 92 i0 (.agg #[.int .i64 0, .slice none 0 0]) 2 32 Try.underlying90 hI1.out hI2.out hI3.out hI4.out rfl (by omega) (.slice (some ⟨ba, 0, none⟩) 0 0) 0 [] (by rfl) (owns_empty HN1.out.2.1 HN1.out.2.2) ao n cap (rowC (fun i => factR (A i)) n) (by rfl) (HSA.out.ext (k := []) HN1.out.1 (fun _ _ => by simp)) (by have := HSZ.out; unfold maxLen; omega) (by have := HSZ.out; omega) (by have := HN1.out.1.size; omega) ?_
            intro v1 V2 ho1 hY2 hX2
            have HN2 := Lib.hid (And.intro (hX2 w0 HN1.out.1 (Nat.le_refl _)) ho1)
            refine hK _ _ (fun _ => HN2.out.1) ?_
            clear hK K hY2 hX2 ho1
            try simp only [Act.put, List.setIfInBounds_toArray, List.set_cons_zero, List.set_cons_succ]
            refine wpPl_tl4 rfl (by rfl) (fun K hK => ?_)
            go_simp
            obtain ⟨V3, hW3⟩ : ∃ V3, V2.alloc (.cells #[.int .i64 x.what, .slice x.bo x.M.length x.cap, .int .i64 y.what, .slice y.bo y.M.length y.cap] 92) = V3 := ⟨_, rfl⟩
            obtain ⟨bb, hbb⟩ : ∃ bb, V2.heap.size = bb := ⟨_, rfl⟩
            have hY3 : Ext [] V2 V3 := by rw [← hW3]; exact (Ext.refl _ _).alloc _
            have hZ3 : V3.heap[bb]? = some (.cells #[.int .i64 x.what, .slice x.bo x.M.length x.cap, .int .i64 y.what, .slice y.bo y.M.length y.cap] 92 (0, 0)) := by rw [← hW3, ← hbb]; exact World.alloc_heap_new _ _
            have HN3 := Lib.hid (And.intro (HN2.out.1.trans hY3) hZ3)
            have HO3 := Lib.hid (owns_ext (m := []) HN2.out.2 hY3 (fun _ _ => by simp))
            try rw [hW3]
            try rw [hbb]
            refine hK _ _ (fun _ => HN3.out.1) ?_
            clear hK K hY3 hZ3 hW3 hbb
            try simp only [Act.put, List.setIfInBounds_toArray, List.set_cons_zero, List.set_cons_succ]
            refine wpPl_tl4 rfl (by rfl) (fun K hK => ?_)
            refine op_append_any (.tmp 35) (.tmp 38) 90 (by rfl) w0.heap.size 92 i0 (.agg #[.int .i64 0, .slice none 0 0]) 2 32 Try.underlying90 hI1.out hI2.out hI3.out hI4.out rfl (by omega) _ (0 + n) ([] ++ rowC (fun i => factR (A i)) n) (by rfl) HO3.out _ 2 2 (factR x ++ factR y) (by rfl) (.inr ⟨_, rfl, rfl, World.news_of_block (cs := #[.int .i64 x.what, .slice x.bo x.M.length x.cap, .int .i64 y.what, .slice y.bo y.M.length y.cap]) (t := 92) (fr := (0, 0)) HN3.out.2, by simp [factR, Value.oneCell']⟩) (by have := HSZ.out; unfold maxLen; omega) (by have := HSZ.out; omega) (by have := HN3.out.1.size; omega) ?_
            intro v2 V4 ho2 hY4 hX4
            have hX := hX4 w0 HN3.out.1 (Nat.le_refl _)
            obtain ⟨bo, bcap, rfl, hq⟩ := behindF_acts ho2 (HI.out V4 hX)
            have HN4 := Lib.hid (And.intro hX hq)
            refine hK _ _ (fun _ => HN4.out.1) ?_
            clear hK K hY4 hX4 ho2 hX hq
            try simp only [Act.put, List.setIfInBounds_toArray, List.set_cons_zero, List.set_cons_succ]
            refine wpPl_tl4 rfl (by rfl) (fun K hK => ?_)
            go_simp
            go_at_call 42
            refine (HF.out _ _ _ HN4.out.2).mono ?_
            rintro e w' ⟨rfl, rfl⟩
            refine hK _ _ (fun _ => HN4.out.1) ?_
            clear hK K
            try simp only [Act.put, List.setIfInBounds_toArray, List.set_cons_zero, List.set_cons_succ]
            repeat (first
              | (refine wpPl_no4 rfl (by rfl) ?_; simp only [Act.put, List.setIfInBounds_toArray, List.set_cons_zero, List.set_cons_succ])
              | (refine wpPl_hd4 ?_ rfl (by rfl) (fun w hSw => ?_) ?_
                 rotate_left
                 · (clear hSw; go_simp; first | exact ⟨rfl, rfl⟩ | exact rfl)
                 simp only [Act.put, List.setIfInBounds_toArray, List.set_cons_zero, List.set_cons_succ]))
            refine wpPl_tl4 rfl (by rfl) (fun K hK => ?_)
            go_simp
            refine hK _ _ (fun _ => HN4.out.1) ?_
            clear hK K
            try simp only [Act.put, List.setIfInBounds_toArray, List.set_cons_zero, List.set_cons_succ]
            refine wpPl_done4 ?_
            go_wp2_with fail
            go_meet
            exact ⟨by first | rfl | simp, HN4.out.1⟩
          · refine wpPl_tl4 rfl (by rfl) (fun K hK => ?_)
            go_simp
            obtain ⟨V2, hW2⟩ : ∃ V2, V1.alloc (.cells #[.int .i64 x.what, .slice x.bo x.M.length x.cap, .int .i64 y.what, .slice y.bo y.M.length y.cap] 92) = V2 := ⟨_, rfl⟩
            obtain ⟨bb, hbb⟩ : ∃ bb, V1.heap.size = bb := ⟨_, rfl⟩
            have hY2 : Ext [] V1 V2 := by rw [← hW2]; exact (Ext.refl _ _).alloc _
            have hZ2 : V2.heap[bb]? = some (.cells #[.int .i64 x.what, .slice x.bo x.M.length x.cap, .int .i64 y.what, .slice y.bo y.M.length y.cap] 92 (0, 0)) := by rw [← hW2, ← hbb]; exact World.alloc_heap_new _ _
            have HN2 := Lib.hid (And.intro (HN1.out.1.trans hY2) hZ2)
            have HO2 := Lib.hid (And.intro (hY2.at HN1.out.2.1 (by simp)) HN1.out.2.2)
            try rw [hW2]
            try rw [hbb]
            refine hK _ _ (fun _ => HN2.out.1) ?_
            clear hK K hY2 hZ2 hW2 hbb
            try simp only [Act.put, List.setIfInBounds_toArray, List.set_cons_zero, List.set_cons_succ]
            refine wpPl_tl4 rfl (by rfl) (fun K hK => ?_)
            refine op_append_any (.tmp 33) (.tmp 34) 90 (by rfl) w0.heap.size 92 i0 (.agg #[.int .i64 0, .slice none 0 0]) 2 32 Try.underlying90 hI1.out hI2.out hI3.out hI4.out rfl (by omega) (.slice (some ⟨ba, 0, none⟩) 0 0) 0 [] (by rfl) (owns_empty HO2.out.1 HO2.out.2) ao n cap (rowC (fun i => factR (A i)) n) (by rfl) (HSA.out.ext (k := []) HN2.out.1 (fun _ _ => by simp)) (by have := HSZ.out; unfold maxLen; omega) (by have := HSZ.out; omega) (by have := HN2.out.1.size; omega) ?_
            intro v1 V3 ho1 hY3 hX3
            have HN3 := Lib.hid (And.intro (hX3 w0 HN2.out.1 (Nat.le_refl _)) ho1)
            have HO3 := Lib.hid (hY3.at HN2.out.2 (by simp [Value.ownBlock]; intro h; have h1 := HN2.out.2; have h2 := HO2.out.1; rw [h, h2] at h1; simp at h1))
            refine hK _ _ (fun _ => HN3.out.1) ?_
            clear hK K hY3 hX3 ho1
            try simp only [Act.put, List.setIfInBounds_toArray, List.set_cons_zero, List.set_cons_succ]
            refine wpPl_tl4 rfl (by rfl) (fun K hK => ?_)
            refine op_append_any (.tmp 35) (.tmp 38) 90 (by rfl) w0.heap.size 92 i0 (.agg #[.int .i64 0, .slice none 0 0]) 2 32 Try.underlying90 hI1.out hI2.out hI3.out hI4.out rfl (by omega) _ (0 + n) ([] ++ rowC (fun i => factR (A i)) n) (by rfl) HN3.out.2 _ 2 2 (factR x ++ factR y) (by rfl) (.inr ⟨_, rfl, rfl, World.news_of_block (cs := #[.int .i64 x.what, .slice x.bo x.M.length x.cap, .int .i64 y.what, .slice y.bo y.M.length y.cap]) (t := 92) (fr := (0, 0)) HO3.out, by simp [factR, Value.oneCell']⟩) (by have := HSZ.out; unfold maxLen; omega) (by have := HSZ.out; omega) (by have := HN3.out.1.size; omega) ?_
            intro v2 V4 ho2 hY4 hX4
            have hX := hX4 w0 HN3.out.1 (Nat.le_refl _)
            obtain ⟨bo, bcap, rfl, hq⟩ := behindF_acts ho2 (HI.out V4 hX)
            have HN4 := Lib.hid (And.intro hX hq)
            refine hK _ _ (fun _ => HN4.out.1) ?_
            clear hK K hY4 hX4 ho2 hX hq
            try simp only [Act.put, List.setIfInBounds_toArray, List.set_cons_zero, List.set_cons_succ]
            refine wpPl_tl4 rfl (by rfl) (fun K hK => ?_)
            go_simp
            go_at_call 42
            refine (HF.out _ _ _ HN4.out.2).mono ?_
            rintro e w' ⟨rfl, rfl⟩
            refine hK _ _ (fun _ => HN4.out.1) ?_
            clear hK K
            try simp only [Act.put, List.setIfInBounds_toArray, List.set_cons_zero, List.set_cons_succ]
            repeat (first
              | (refine wpPl_no4 rfl (by rfl) ?_; simp only [Act.put, List.setIfInBounds_toArray, List.set_cons_zero, List.set_cons_succ])
              | (refine wpPl_hd4 ?_ rfl (by rfl) (fun w hSw => ?_) ?_
                 rotate_left
                 · (clear hSw; go_simp; first | exact ⟨rfl, rfl⟩ | exact rfl)
                 simp only [Act.put, List.setIfInBounds_toArray, List.set_cons_zero, List.set_cons_succ]))
            refine wpPl_tl4 rfl (by rfl) (fun K hK => ?_)
            go_simp
            refine hK _ _ (fun _ => HN4.out.1) ?_
            clear hK K
            try simp only [Act.put, List.setIfInBounds_toArray, List.set_cons_zero, List.set_cons_succ]
            refine wpPl_done4 ?_
            go_wp2_with fail
            go_meet
            exact ⟨by first | rfl | simp, HN4.out.1⟩
        · refine wpPl_tl4 rfl (by rfl) (fun K hK => ?_)
          go_simp
          obtain ⟨V1, hW1⟩ : ∃ V1, V0.alloc (.cells #[.int .i64 x.what, .slice x.bo x.M.length x.cap, .int .i64 y.what, .slice y.bo y.M.length y.cap] 92) = V1 := ⟨_, rfl⟩
          obtain ⟨bb, hbb⟩ : ∃ bb, V0.heap.size = bb := ⟨_, rfl⟩
          have hY1 : Ext [] V0 V1 := by rw [← hW1]; exact (Ext.refl _ _).alloc _
          have hZ1 : V1.heap[bb]? = some (.cells #[.int .i64 x.what, .slice x.bo x.M.length x.cap, .int .i64 y.what, .slice y.bo y.M.length y.cap] 92 (0, 0)) := by rw [← hW1, ← hbb]; exact World.alloc_heap_new _ _
          have HN1 := Lib.hid (And.intro (HN0.out.1.trans hY1) hZ1)
          try rw [hW1]
          try rw [hbb]
          refine hK _ _ (fun _ => HN1.out.1) ?_
          clear hK K hY1 hZ1 hW1 hbb
          try simp only [Act.put, List.setIfInBounds_toArray, List.set_cons_zero, List.set_cons_succ]
          refine wpPl_tl4 rfl (by rfl) (fun K hK => ?_)
          go_simp
          obtain ⟨V2, hW2⟩ : ∃ V2, V1.alloc (.cells #[] 92) = V2 := ⟨_, rfl⟩
          obtain ⟨ba, hba⟩ : ∃ ba, V1.heap.size = ba := ⟨_, rfl⟩
          have hY2 : Ext [] V1 V2 := by rw [← hW2]; exact (Ext.refl _ _).alloc _
          have hZ2 : V2.heap[ba]? = some (.cells #[] 92 (0, 0)) := by rw [← hW2, ← hba]; exact World.alloc_heap_new _ _
          have HN2 := Lib.hid (And.intro (HN1.out.1.trans hY2) (And.intro hZ2 (show w0.heap.size ≤ ba by have := HN1.out.1.size; omega)))
          have HO2 := Lib.hid (hY2.at HN1.out.2 (by simp))
          try rw [hW2]
          try rw [hba]
          refine hK _ _ (fun _ => HN2.out.1) ?_
          clear hK K hY2 hZ2 hW2 hba
          try simp only [Act.put, List.setIfInBounds_toArray, List.set_cons_zero, List.set_cons_succ]
          refine wpPl_tl4 rfl (by rfl) (fun K hK => ?_)
          refine op_append_any (.tmp 33) (.tmp 34) 90 (by rfl) w0.heap.size 92 i0 (.agg #[.int .i64 0, .slice none 0 0]) 2 32 Try.underlying90 hI1.out hI2.out hI3.out hI4.out rfl (by omega) (.slice (some ⟨ba, 0, none⟩) 0 0) 0 [] (by rfl) (owns_empty HN2.out.2.1 HN2.out.2.2) ao n cap (rowC (fun i => factR (A i)) n) (by rfl) (HSA.out.ext (k := []) HN2.out.1 (fun _ _ => by simp)) (by have := HSZ.out; unfold maxLen; omega) (by have := HSZ.out; omega) (by have := HN2.out.1.size; omega) ?_
          intro v1 V3 ho1 hY3 hX3
          have HN3 := Lib.hid (And.intro (hX3 w0 HN2.out.1 (Nat.le_refl _)) ho1)
          have HO3 := Lib.hid (hY3.at HO2.out (by simp [Value.ownBlock]; intro h; have h1 := HO2.out; have h2 := HN2.out.2.1; rw [h, h2] at h1; simp at h1))
          refine hK _ _ (fun _ => HN3.out.1) ?_
          clear hK K hY3 hX3 ho1
          try simp only [Act.put, List.setIfInBounds_toArray, List.set_cons_zero, List.set_cons_succ]
          refine wpPl_tl4 rfl (by rfl) (fun K hK => ?_)
          refine op_append_any (.tmp 35) (.tmp 38) 90 (by rfl) w0.heap.size 92 i0 (.agg #[.int .i64 0, .slice none 0 0]) 2 32 Try.underlying90 hI1.out hI2.out hI3.out hI4.out rfl (by omega) _ (0 + n) ([] ++ rowC (fun i => factR (A i)) n) (by rfl) HN3.out.2 _ 2 2 (factR x ++ factR y) (by rfl) (.inr ⟨_, rfl, rfl, World.news_of_block (cs := #[.int .i64 x.what, .slice x.bo x.M.length x.cap, .int .i64 y.what, .slice y.bo y.M.length y.cap]) (t := 92) (fr := (0, 0)) HO3.out, by simp [factR, Value.oneCell']⟩) (by have := HSZ.out; unfold maxLen; omega) (by have := HSZ.out; omega) (by have := HN3.out.1.size; omega) ?_
          intro v2 V4 ho2 hY4 hX4
          have hX := hX4 w0 HN3.out.1 (Nat.le_refl _)
          obtain ⟨bo, bcap, rfl, hq⟩ := behindF_acts ho2 (HI.out V4 hX)
          have HN4 := Lib.hid (And.intro hX hq)
          refine hK _ _ (fun _ => HN4.out.1) ?_
          clear hK K hY4 hX4 ho2 hX hq
          try simp only [Act.put, List.setIfInBounds_toArray, List.set_cons_zero, List.set_cons_succ]
          refine wpPl_tl4 rfl (by rfl) (fun K hK => ?_)
          go_simp
          go_at_call 42
          refine (HF.out _ _ _ HN4.out.2).mono ?_
          rintro e w' ⟨rfl, rfl⟩
          refine hK _ _ (fun _ => HN4.out.1) ?_
          clear hK K
          try simp only [Act.put, List.setIfInBounds_toArray, List.set_cons_zero, List.set_cons_succ]
          repeat (first
            | (refine wpPl_no4 rfl (by rfl) ?_; simp only [Act.put, List.setIfInBounds_toArray, List.set_cons_zero, List.set_cons_succ])
            | (refine wpPl_hd4 ?_ rfl (by rfl) (fun w hSw => ?_) ?_
               rotate_left
               · (clear hSw; go_simp; first | exact ⟨rfl, rfl⟩ | exact rfl)
               simp only [Act.put, List.setIfInBounds_toArray, List.set_cons_zero, List.set_cons_succ]))
          refine wpPl_tl4 rfl (by rfl) (fun K hK => ?_)
          go_simp
          refine hK _ _ (fun _ => HN4.out.1) ?_
          clear hK K
          try simp only [Act.put, List.setIfInBounds_toArray, List.set_cons_zero, List.set_cons_succ]
          refine wpPl_done4 ?_
          go_wp2_with fail
          go_meet
          exact ⟨by first | rfl | simp, HN4.out.1⟩
      | true =>
        have hB : Bq = (tc != 0) := by rw [← hBq]; simp
        subst hB
        refine wp_region_p4 [] (hds4 [0, 1, 2, 3, 5, 7, 8] (.two 4 (.two 6 (.tl 9 (.tl 10 (.tl 11 (hds4 [12, 13, 14, 15] (.tl 16 (hds4 [17] (.tl 18 .done))))))) 9 (.tl 6 (.tl 10 (.tl 11 (hds4 [12, 13, 14, 15] (.tl 16 (hds4 [17] (.tl 18 .done)))))))) 9 (.tl 4 (.tl 6 (.tl 10 (.tl 11 (hds4 [12, 13, 14, 15] (.tl 16 (hds4 [17] (.tl 18 .done)))))))))) (Ext [] w0) (by kernel_rfl) (by kernel_rfl) (fun _ d _ _ _ h => by cases d <;> exact h) (Ext.refl _ _).drew ?_
        repeat (first
          | (refine wpPl_hd4 ?_ rfl (by rfl) (fun w hSw => ?_) ?_
             rotate_left
             · (obtain ⟨r0, r1, r2, r3⟩ := HRX.out _ hSw; clear hSw; go_simp; first | exact ⟨rfl, rfl⟩ | exact rfl)
             simp only [Act.put, List.setIfInBounds_toArray, List.set_cons_zero, List.set_cons_succ]))
        obtain ⟨V0, hV0⟩ : ∃ V0, w0.drew = V0 := ⟨_, rfl⟩
        have HN0 : Hid (Ext [] w0 V0 ∧ True) := ⟨by rw [← hV0]; exact (Ext.refl _ _).drew, trivial⟩
        rw [hV0]
        clear hV0
        refine wpPl_two4 ?_ ?_
        · refine wpPl_tl4 rfl (by rfl) (fun K hK => ?_)
          go_simp
          obtain ⟨V1, hW1⟩ : ∃ V1, V0.alloc (.cells #[] 92) = V1 := ⟨_, rfl⟩
          obtain ⟨ba, hba⟩ : ∃ ba, V0.heap.size = ba := ⟨_, rfl⟩
          have hY1 : Ext [] V0 V1 := by rw [← hW1]; exact (Ext.refl _ _).alloc _
          have hZ1 : V1.heap[ba]? = some (.cells #[] 92 (0, 0)) := by rw [← hW1, ← hba]; exact World.alloc_heap_new _ _
          have HN1 := Lib.hid (And.intro (HN0.out.1.trans hY1) (And.intro hZ1 (show w0.heap.size ≤ ba by have := HN0.out.1.size; omega)))
          try rw [hW1]
          try rw [hba]
          refine hK _ _ (fun _ => HN1.out.1) ?_
          clear hK K hY1 hZ1 hW1 hba
          try simp only [Act.put, List.setIfInBounds_toArray, List.set_cons_zero, List.set_cons_succ]
          refine wpPl_two4 ?_ ?_
          · refine wpPl_tl4 rfl (by rfl) (fun K hK => ?_)
            refine op_append_any (.tmp 33) (.tmp 34) 90 (by rfl) w0.heap.size 92 i0 (.agg #[.int .i64 0, .slice none 0 0]) 2 32 Try.underlying90 hI1.out hI2.out hI3.out hI4.out rfl (by omega) (.slice (some ⟨ba, 0, none⟩) 0 0) 0 [] (by rfl) (owns_empty HN1.out.2.1 HN1.out.2.2) ao n cap (rowC (fun i => factR (A i)) n) (by rfl) (HSA.out.ext (k := []) HN1.out.1 (fun _ _ => by simp)) (by have := HSZ.out; unfold maxLen; omega) (by have := HSZ.out; omega) (by have := HN1.out.1.size; omega) ?_
            intro v1 V2 ho1 hY2 hX2
            have HN2 := Lib.hid (And.intro (hX2 w0 HN1.out.1 (Nat.le_refl _)) ho1)
            refine hK _ _ (fun _ => HN2.out.1) ?_
            clear hK K hY2 hX2 ho1
            try simp only [Act.put, List.setIfInBounds_toArray, List.set_cons_zero, List.set_cons_succ]
            refine wpPl_tl4 rfl (by rfl) (fun K hK => ?_)
            go_simp
            obtain ⟨V3, hW3⟩ : ∃ V3, V2.alloc (.cells #[.int .i64 x.what, .slice x.bo x.M.length x.cap, .int .i64 y.what, .slice y.bo y.M.length y.cap] 92) = V3 := ⟨_, rfl⟩
            obtain ⟨bb, hbb⟩ : ∃ bb, V2.heap.size = bb := ⟨_, rfl⟩
            have hY3 : Ext [] V2 V3 := by rw [← hW3]; exact (Ext.refl _ _).alloc _
            have hZ3 : V3.heap[bb]? = some (.cells #[.int .i64 x.what, .slice x.bo x.M.length x.cap, .int .i64 y.what, .slice y.bo y.M.length y.cap] 92 (0, 0)) := by rw [← hW3, ← hbb]; exact World.alloc_heap_new _ _
            have HN3 := Lib.hid (And.intro (HN2.out.1.trans hY3) hZ3)
            have HO3 := Lib.hid (owns_ext (m := []) HN2.out.2 hY3 (fun _ _ => by simp))
            try rw [hW3]
            try rw [hbb]
            refine hK _ _ (fun _ => HN3.out.1) ?_
            clear hK K hY3 hZ3 hW3 hbb
            try simp only [Act.put, List.setIfInBounds_toArray, List.set_cons_zero, List.set_cons_succ]
            refine wpPl_tl4 rfl (by rfl) (fun K hK => ?_)
            refine op_append_any (.tmp 35) (.tmp 38) 90 (by rfl) w0.heap.size 92 i0 (.agg #[.int .i64 0, .slice none 0 0]) 2 32 Try.underlying90 hI1.out hI2.out hI3.out hI4.out rfl (by omega) _ (0 + n) ([] ++ rowC (fun i => factR (A i)) n) (by rfl) HO3.out _ 2 2 (factR x ++ factR y) (by rfl) (.inr ⟨_, rfl, rfl, World.news_of_block (cs := #[.int .i64 x.what, .slice x.bo x.M.length x.cap, .int .i64 y.what, .slice y.bo y.M.length y.cap]) (t := 92) (fr := (0, 0)) HN3.out.2, by simp [factR, Value.oneCell']⟩) (by have := HSZ.out; unfold maxLen; omega) (by have := HSZ.out; omega) (by have := HN3.out.1.size; omega) ?_
            intro v2 V4 ho2 hY4 hX4
            have hX := hX4 w0 HN3.out.1 (Nat.le_refl _)
            obtain ⟨bo, bcap, rfl, hq⟩ := behindF_acts ho2 (HI.out V4 hX)
            have HN4 := Lib.hid (And.intro hX hq)
            refine hK _ _ (fun _ => HN4.out.1) ?_
            clear hK K hY4 hX4 ho2 hX hq
            try simp only [Act.put, List.setIfInBounds_toArray, List.set_cons_zero, List.set_cons_succ]
            refine wpPl_tl4 rfl (by rfl) (fun K hK => ?_)
            go_simp
            go_at_call 42
            refine (HF.out _ _ _ HN4.out.2).mono ?_
            rintro e w' ⟨rfl, rfl⟩
            refine hK _ _ (fun _ => HN4.out.1) ?_
            clear hK K
            try simp only [Act.put, List.setIfInBounds_toArray, List.set_cons_zero, List.set_cons_succ]
            repeat (first
              | (refine wpPl_hd4 ?_ rfl (by rfl) (fun w hSw => ?_) ?_
                 rotate_left
                 · (clear hSw; go_simp; first | exact ⟨rfl, rfl⟩ | exact rfl)
                 simp only [Act.put, List.setIfInBounds_toArray, List.set_cons_zero, List.set_cons_succ]))
            refine wpPl_tl4 rfl (by rfl) (fun K hK => ?_)
            go_simp
            go_at_call 43
            refine (HCK.out _ HN4.out.1).mono ?_
            rintro e V9 ⟨rfl, hY9⟩
            have HN9 := Lib.hid (HN4.out.1.trans hY9)
            refine hK _ _ (fun _ => HN9.out) ?_
            clear hK K hY9
            try simp only [Act.put, List.setIfInBounds_toArray, List.set_cons_zero, List.set_cons_succ]
            repeat (first
              | (refine wpPl_hd4 ?_ rfl (by rfl) (fun w hSw => ?_) ?_
                 rotate_left
                 · (clear hSw; go_simp; first | exact ⟨rfl, rfl⟩ | exact rfl)
                 simp only [Act.put, List.setIfInBounds_toArray, List.set_cons_zero, List.set_cons_succ]))
            refine wpPl_tl4 rfl (by rfl) (fun K hK => ?_)
            go_simp
            refine hK _ _ (fun _ => HN9.out) ?_
            clear hK K
            try simp only [Act.put, List.setIfInBounds_toArray, List.set_cons_zero, List.set_cons_succ]
            refine wpPl_done4 ?_
            go_wp2_with fail
            go_meet
            exact ⟨by first | rfl | simp, HN9.out⟩
          · refine wpPl_tl4 rfl (by rfl) (fun K hK => ?_)
            go_simp
            obtain ⟨V2, hW2⟩ : ∃ V2, V1.alloc (.cells #[.int .i64 x.what, .slice x.bo x.M.length x.cap, .int .i64 y.what, .slice y.bo y.M.length y.cap] 92) = V2 := ⟨_, rfl⟩
            obtain ⟨bb, hbb⟩ : ∃ bb, V1.heap.size = bb := ⟨_, rfl⟩
            have hY2 : Ext [] V1 V2 := by rw [← hW2]; exact (Ext.refl _ _).alloc _
            have hZ2 : V2.heap[bb]? = some (.cells #[.int .i64 x.what, .slice x.bo x.M.length x.cap, .int .i64 y.what, .slice y.bo y.M.length y.cap] 92 (0, 0)) := by rw [← hW2, ← hbb]; exact World.alloc_heap_new _ _
            have HN2 := Lib.hid (And.intro (HN1.out.1.trans hY2) hZ2)
            have HO2 := Lib.hid (And.intro (hY2.at HN1.out.2.1 (by simp)) HN1.out.2.2)
            try rw [hW2]
            try rw [hbb]
            refine hK _ _ (fun _ => HN2.out.1) ?_
            clear hK K hY2 hZ2 hW2 hbb
            try simp only [Act.put, List.setIfInBounds_toArray, List.set_cons_zero, List.set_cons_succ]
            refine wpPl_tl4 rfl (by rfl) (fun K hK => ?_)
            refine op_append_any (.tmp 33) (.tmp 34) 90 (by rfl) w0.heap.size 92 i0 (.agg #[.int .i64 0, .slice none 0 0]) 2 32 Try.underlying90 hI1.out hI2.out hI3.out hI4.out rfl (by omega) (.slice (some ⟨ba, 0, none⟩) 0 0) 0 [] (by rfl) (owns_empty HO2.out.1 HO2.out.2) ao n cap (rowC (fun i => factR (A i)) n) (by rfl) (HSA.out.ext (k := []) HN2.out.1 (fun _ _ => by simp)) (by have := HSZ.out; unfold maxLen; omega) (by have := HSZ.out; omega) (by have := HN2.out.1.size; omega) ?_
            intro v1 V3 ho1 hY3 hX3
            have HN3 := Lib.hid (And.intro (hX3 w0 HN2.out.1 (Nat.le_refl _)) ho1)
            have HO3 := Lib.hid (hY3.at HN2.out.2 (by simp [Value.ownBlock]; intro h; have h1 := HN2.out.2; have h2 := HO2.out.1; rw [h, h2] at h1; simp at h1))
            refine hK _ _ (fun _ => HN3.out.1) ?_
            clear hK K hY3 hX3 ho1
            try simp only [Act.put, List.setIfInBounds_toArray, List.set_cons_zero, List.set_cons_succ]
            refine wpPl_tl4 rfl (by rfl) (fun K hK => ?_)
            refine op_append_any (.tmp 35) (.tmp 38) 90 (by rfl) w0.heap.size 92 i0 (.agg #[.int .i64 0, .slice none 0 0]) 2 32 Try.underlying90 hI1.out hI2.out hI3.out hI4.out rfl (by omega) _ (0 + n) ([] ++ rowC (fun i => factR (A i)) n) (by rfl) HN3.out.2 _ 2 2 (factR x ++ factR y) (by rfl) (.inr ⟨_, rfl, rfl, World.news_of_block (cs := #[.int .i64 x.what, .slice x.bo x.M.length x.cap, .int .i64 y.what, .slice y.bo y.M.length y.cap]) (t := 92) (fr := (0, 0)) HO3.out, by simp [factR, Value.oneCell']⟩) (by have := HSZ.out; unfold maxLen; omega) (by have := HSZ.out; omega) (by have := HN3.out.1.size; omega) ?_
            intro v2 V4 ho2 hY4 hX4
            have hX := hX4 w0 HN3.out.1 (Nat.le_refl _)
            obtain ⟨bo, bcap, rfl, hq⟩ := behindF_acts ho2 (HI.out V4 hX)
            have HN4 := Lib.hid (And.intro hX hq)
            refine hK _ _ (fun _ => HN4.out.1) ?_
            clear hK K hY4 hX4 ho2 hX hq
            try simp only [Act.put, List.setIfInBounds_toArray, List.set_cons_zero, List.set_cons_succ]
            refine wpPl_tl4 rfl (by rfl) (fun K hK => ?_)
            go_simp
            go_at_call 42
            refine (HF.out _ _ _ HN4.out.2).mono ?_
            rintro e w' ⟨rfl, rfl⟩
            refine hK _ _ (fun _ => HN4.out.1) ?_
            clear hK K
            try simp only [Act.put, List.setIfInBounds_toArray, List.set_cons_zero, List.set_cons_succ]
            repeat (first
              | (refine wpPl_hd4 ?_ rfl (by rfl) (fun w hSw => ?_) ?_
                 rotate_left
                 · (clear hSw; go_simp; first | exact ⟨rfl, rfl⟩ | exact rfl)
                 simp only [Act.put, List.setIfInBounds_toArray, List.set_cons_zero, List.set_cons_succ]))
            refine wpPl_tl4 rfl (by rfl) (fun K hK => ?_)
            go_simp
            go_at_call 43
            refine (HCK.out _ HN4.out.1).mono ?_
            rintro e V9 ⟨rfl, hY9⟩
            have HN9 := Lib.hid (HN4.out.1.trans hY9)
            refine hK _ _ (fun _ => HN9.out) ?_
            clear hK K hY9
            try simp only [Act.put, List.setIfInBounds_toArray, List.set_cons_zero, List.set_cons_succ]
            repeat (first
              | (refine wpPl_hd4 ?_ rfl (by rfl) (fun w hSw => ?_) ?_
                 rotate_left
                 · (clear hSw; go_simp; first | exact ⟨rfl, rfl⟩ | exact rfl)
                 simp only [Act.put, List.setIfInBounds_toArray, List.set_cons_zero, List.set_cons_succ]))
            refine wpPl_tl4 rfl (by rfl) (fun K hK => ?_)
            go_simp
            refine hK _ _ (fun _ => HN9.out) ?_
            clear hK K
            try simp only [Act.put, List.setIfInBounds_toArray, List.set_cons_zero, List.set_cons_succ]
            refine wpPl_done4 ?_
            go_wp2_with fail
            go_meet
            exact ⟨by first | rfl | simp, HN9.out⟩
        · refine wpPl_tl4 rfl (by rfl) (fun K hK => ?_)
          go_simp
          obtain ⟨V1, hW1⟩ : ∃ V1, V0.alloc (.cells #[.int .i64 x.what, .slice x.bo x.M.length x.cap, .int .i64 y.what, .slice y.bo y.M.length y.cap] 92) = V1 := ⟨_, rfl⟩
          obtain ⟨bb, hbb⟩ : ∃ bb, V0.heap.size = bb := ⟨_, rfl⟩
          have hY1 : Ext [] V0 V1 := by rw [← hW1]; exact (Ext.refl _ _).alloc _
          have hZ1 : V1.heap[bb]? = some (.cells #[.int .i64 x.what, .slice x.bo x.M.length x.cap, .int .i64 y.what, .slice y.bo y.M.length y.cap] 92 (0, 0)) := by rw [← hW1, ← hbb]; exact World.alloc_heap_new _ _
          have HN1 := Lib.hid (And.intro (HN0.out.1.trans hY1) hZ1)
          try rw [hW1]
          try rw [hbb]
          refine hK _ _ (fun _ => HN1.out.1) ?_
          clear hK K hY1 hZ1 hW1 hbb
          try simp only [Act.put, List.setIfInBounds_toArray, List.set_cons_zero, List.set_cons_succ]
          refine wpPl_tl4 rfl (by rfl) (fun K hK => ?_)
          go_simp
          obtain ⟨V2, hW2⟩ : ∃ V2, V1.alloc (.cells #[] 92) = V2 := ⟨_, rfl⟩
          obtain ⟨ba, hba⟩ : ∃ ba, V1.heap.size = ba := ⟨_, rfl⟩
          have hY2 : Ext [] V1 V2 := by rw [← hW2]; exact (Ext.refl _ _).alloc _
          have hZ2 : V2.heap[ba]? = some (.cells #[] 92 (0, 0)) := by rw [← hW2, ← hba]; exact World.alloc_heap_new _ _
          have HN2 := Lib.hid (And.intro (HN1.out.1.trans hY2) (And.intro hZ2 (show w0.heap.size ≤ ba by have := HN1.out.1.size; omega)))
          have HO2 := Lib.hid (hY2.at HN1.out.2 (by simp))
          try rw [hW2]
          try rw [hba]
          refine hK _ _ (fun _ => HN2.out.1) ?_
          clear hK K hY2 hZ2 hW2 hba
          try simp only [Act.put, List.setIfInBounds_toArray, List.set_cons_zero, List.set_cons_succ]
          refine wpPl_tl4 rfl (by rfl) (fun K hK => ?_)
          refine op_append_any (.tmp 33) (.tmp 34) 90 (by rfl) w0.heap.size 92 i0 (.agg #[.int .i64 0, .slice none 0 0]) 2 32 Try.underlying90 hI1.out hI2.out hI3.out hI4.out rfl (by omega) (.slice (some ⟨ba, 0, none⟩) 0 0) 0 [] (by rfl) (owns_empty HN2.out.2.1 HN2.out.2.2) ao n cap (rowC (fun i => factR (A i)) n) (by rfl) (HSA.out.ext (k := []) HN2.out.1 (fun _ _ => by simp)) (by have := HSZ.out; unfold maxLen; omega) (by have := HSZ.out; omega) (by have := HN2.out.1.size; omega) ?_
          intro v1 V3 ho1 hY3 hX3
          have HN3 := Lib.hid (And.intro (hX3 w0 HN2.out.1 (Nat.le_refl _)) ho1)
          have HO3 := Lib.hid (hY3.at HO2.out (by simp [Value.ownBlock]; intro h; have h1 := HO2.out; have h2 := HN2.out.2.1; rw [h, h2] at h1; simp at h1))
          refine hK _ _ (fun _ => HN3.out.1) ?_
          clear hK K hY3 hX3 ho1
          try simp only [Act.put, List.setIfInBounds_toArray, List.set_cons_zero, List.set_cons_succ]
          refine wpPl_tl4 rfl (by rfl) (fun K hK => ?_)
          refine op_append_any (.tmp 35) (.tmp 38) 90 (by rfl) w0.heap.size 92 i0 (.agg #[.int .i64 0, .slice none 0 0]) 2 32 Try.underlying90 hI1.out hI2.out hI3.out hI4.out rfl (by omega) _ (0 + n) ([] ++ rowC (fun i => factR (A i)) n) (by rfl) HN3.out.2 _ 2 2 (factR x ++ factR y) (by rfl) (.inr ⟨_, rfl, rfl, World.news_of_block (cs := #[.int .i64 x.what, .slice x.bo x.M.length x.cap, .int .i64 y.what, .slice y.bo y.M.length y.cap]) (t := 92) (fr := (0, 0)) HO3.out, by simp [factR, Value.oneCell']⟩) (by have := HSZ.out; unfold maxLen; omega) (by have := HSZ.out; omega) (by have := HN3.out.1.size; omega) ?_
          intro v2 V4 ho2 hY4 hX4
          have hX := hX4 w0 HN3.out.1 (Nat.le_refl _)
          obtain ⟨bo, bcap, rfl, hq⟩ := behindF_acts ho2 (HI.out V4 hX)
          have HN4 := Lib.hid (And.intro hX hq)
          refine hK _ _ (fun _ => HN4.out.1) ?_
          clear hK K hY4 hX4 ho2 hX hq
          try simp only [Act.put, List.setIfInBounds_toArray, List.set_cons_zero, List.set_cons_succ]
          refine wpPl_tl4 rfl (by rfl) (fun K hK => ?_)
          go_simp
          go_at_call 42
          refine (HF.out _ _ _ HN4.out.2).mono ?_
          rintro e w' ⟨rfl, rfl⟩
          refine hK _ _ (fun _ => HN4.out.1) ?_
          clear hK K
          try simp only [Act.put, List.setIfInBounds_toArray, List.set_cons_zero, List.set_cons_succ]
          repeat (first
            | (refine wpPl_hd4 ?_ rfl (by rfl) (fun w hSw => ?_) ?_
               rotate_left
               · (clear hSw; go_simp; first | exact ⟨rfl, rfl⟩ | exact rfl)
               simp only [Act.put, List.setIfInBounds_toArray, List.set_cons_zero, List.set_cons_succ]))
          refine wpPl_tl4 rfl (by rfl) (fun K hK => ?_)
          go_simp
          go_at_call 43
          refine (HCK.out _ HN4.out.1).mono ?_
          rintro e V9 ⟨rfl, hY9⟩
          have HN9 := Lib.hid (HN4.out.1.trans hY9)
          refine hK _ _ (fun _ => HN9.out) ?_
          clear hK K hY9
          try simp only [Act.put, List.setIfInBounds_toArray, List.set_cons_zero, List.set_cons_succ]
          repeat (first
            | (refine wpPl_hd4 ?_ rfl (by rfl) (fun w hSw => ?_) ?_
               rotate_left
               · (clear hSw; go_simp; first | exact ⟨rfl, rfl⟩ | exact rfl)
               simp only [Act.put, List.setIfInBounds_toArray, List.set_cons_zero, List.set_cons_succ]))
          refine wpPl_tl4 rfl (by rfl) (fun K hK => ?_)
          go_simp
          refine hK _ _ (fun _ => HN9.out) ?_
          clear hK K
          try simp only [Act.put, List.setIfInBounds_toArray, List.set_cons_zero, List.set_cons_succ]
          refine wpPl_done4 ?_
          go_wp2_with fail
          go_meet
          exact ⟨by first | rfl | simp, HN9.out⟩
  case rest =>
    obtain ⟨rfl, hEc⟩ := hcut
    cases Bq with
    | true =>
      go_wp2_with fail
      refine (HW.out _).mono ?_
      rintro e w2 ⟨rfl, hE2⟩
      have hb2 := (hEc.trans hE2).at H0.out.2.2.2.1.2.2.2 (by simp)
      have k2 := cell_of (j := 0) (v := .bool false) hb2 rfl
      have f2 := free_of hb2 0
      have H2 := Lib.hid (And.intro (((H0.out.1.trans H0.out.2.1).trans hEc).trans hE2) hb2)
      clear hE2 hb2 hEc
      go_wp2
      show LeavesInM _ _ _ _ _ _ _ _ _
      refine fin.out [] w2 (.bool false) (fun D hD => (by cases hD)) (by simp) H2.out.2 H2.out.1 _ ?_
      rfl
    | false =>
      obtain ⟨wz, rfl⟩ : ∃ wz, wz = wc := ⟨_, rfl⟩
      obtain ⟨rfl, rfl, rfl⟩ : c1 = false ∧ fw = true ∧ tc = 0 := by
        cases c1 <;> cases fw <;> simp at hBq ⊢
        exact hBq
      have hFT := fewF_true HFW.out
      have HLN : Hid ((∀ i, i < n → (A i).M.length ≤ 20) ∧ x.M.length ≤ 20 ∧ y.M.length ≤ 20 ∧ n ≤ 20 ∧ m ≤ 20) := by
        have h1 := hFT.1 n (by omega)
        have h2 := hFT.1 (n + 1) (by omega)
        rw [show behindF A n x y n = x by simp [behindF]] at h1
        rw [show behindF A n x y (n + 1) = y by unfold behindF; rw [if_neg (by omega), if_neg (by omega)]] at h2
        refine ⟨fun i hi => ?_, h1, h2, by have := hFT.2; omega, by have := of_decide_eq_false hc1; omega⟩
        have h3 := hFT.1 i (by omega)
        rwa [show behindF A n x y i = A i by simp [behindF, hi]] at h3
      have HEC := Lib.hid (And.intro hEc (H0.out.2.1.trans hEc))
      have HTC : Hid (tcheck L0 = 0) := HP.out.2.2.2.2.2.2
      have HUP : Hid (w.heap.size ≤ w3.heap.size) := by have := H0.out.2.2.1; have := H0.out.2.2.2.2; show _ ≤ _; omega
      clear hBq hc1 hFT hEc HF HI HSA HSZ HRX HFW
      have HN4 := Lib.hid (pm_New 4 wz (by omega) (by omega))
      rw [show ((4 : Nat) : Int) = 4 from rfl] at HN4
      have HRN : Hid (∀ W : World, Calls Try.prog 27 #[.int .i64 4] W fun e w' => ∃ v', e = .returned v' ∧ Ext [] W w' ∧ RefAt w' v' (dvNew 4)) := fun W => rf_New 4 W (by omega) (by omega)
      have HZL : Hid (w3.heap.size < wz.heap.size) := by have := HEC.out.1.size; have := lt_of_block H0.out.2.2.2.1.2.2.2; have := H0.out.2.2.1; show _ < _; omega
      go_wp2_with fail
      refine HN4.out.mono ?_
      rintro e w1 ⟨rfl, hE1, lb, sb, hD1, hl1, hs1⟩
      obtain ⟨d, hd⟩ : ∃ d, wz.heap.size + 2 = d := ⟨_, rfl⟩
      rw [hd] at hD1 ⊢
      have H1 := Lib.hid (And.intro hE1 (And.intro hD1 (And.intro (show w3.heap.size < d by have := HZL.out; omega) (And.intro (show w3.heap.size < lb by have := HZL.out; omega) (show w3.heap.size < sb by have := HZL.out; omega)))))
      clear hE1 hD1 hl1 hs1 hd HN4
      go_wp2_with fail
      refine (HRN.out _).mono ?_
      rintro e w2 ⟨v2, rfl, hE2, hR2⟩
      have hR2' := hR2
      obtain ⟨sg0, sc0, tg0, tc0, wo0, wc0, rfl, r1, r2, r3⟩ := hR2'
      obtain ⟨w4, hw4⟩ : ∃ w4, w2.alloc (.cells #[.slice (some ⟨sg0, 0, none⟩) (dvNew 4).n sc0, .slice (some ⟨tg0, 0, none⟩) (dvNew 4).n tc0, .slice wo0 (dvNew 4).W.length wc0] 33) = w4 := ⟨_, rfl⟩
      obtain ⟨g, hg⟩ : ∃ g, w2.heap.size = g := ⟨_, rfl⟩
      have hE4 : Ext [] w2 w4 := by rw [← hw4]; exact (Ext.refl _ _).alloc _
      have hb4 : w4.heap[g]? = some (.cells #[.slice (some ⟨sg0, 0, none⟩) (dvNew 4).n sc0, .slice (some ⟨tg0, 0, none⟩) (dvNew 4).n tc0, .slice wo0 (dvNew 4).W.length wc0] 33 (0, 0)) := by rw [← hw4, ← hg]; exact World.alloc_heap_new _ _
      have hX4 := H1.out.1.trans (hE2.trans hE4)
      have H4 := Lib.hid (And.intro (HEC.out.2.trans hX4) (And.intro hb4 (And.intro (H1.out.2.1.ext0 (hE2.trans hE4)) (And.intro (hR2.ext0 hE4) (And.intro ((HEC.out.1.trans hX4).at H0.out.2.2.2.1.2.2.2 (by simp)) (show w3.heap.size < g by have := HZL.out; have := H1.out.1.size; have := hE2.size; omega))))))
      clear hE2 hR2 r1 r2 r3 hE4 hb4 hX4 HRN
      have HNW := Lib.hid (fb_New w3.heap.size lo lc L0 w4 ((HP.out.2.1.ext0 (H0.out.1.trans H4.out.1)).up HUP.out) H4.out.1.size HTC.out)
      rw [HP.out.2.2.1] at HNW
      go_wp2_with fail
      try rw [hw4]
      try rw [hg]
      clear hw4 hg
      refine HNW.out.mono ?_
      rintro e w5 ⟨f, rfl, hF5, hE5, hf5⟩
      have H5 := Lib.hid (And.intro hF5 (And.intro hE5 (show w3.heap.size < f by have := H4.out.1.size; have := HZL.out; have := H1.out.1.size; have := lt_of_block H4.out.2.2.2.2.1; have := H0.out.2.2.1; omega)))
      clear hF5 hE5 hf5 HNW
      obtain ⟨w6, hw6⟩ : ∃ w6, w5.alloc (.cells #[.slice lo m lc, .int .i64 0] 96) = w6 := ⟨_, rfl⟩
      obtain ⟨h, hh⟩ : ∃ h, w5.heap.size = h := ⟨_, rfl⟩
      have hb6 : w6.heap[h]? = some (.cells #[.slice lo m lc, .int .i64 0] 96 (0, 0)) := by rw [← hw6, ← hh]; exact World.alloc_heap_new _ _
      have hst : FP w3 w6 f d lb sb h g L0 [] (dvNew 4) 20 := by
        have hE6 : Ext [] w5 w6 := by rw [← hw6]; exact (Ext.refl _ _).alloc _
        have hX := H5.out.2.1.trans hE6
        have h4s := H5.out.2.1.size
        have hzl := lt_of_block H4.out.2.2.2.2.1
        have hs3 := H0.out.2.2.1
        refine ⟨⟨_, _, _, _, _, hb6, hX.at H4.out.2.1 (by simp), ⟨⟨H5.out.1.ext0 hE6, H4.out.2.2.1.ext0 hX, dvNew_ok (by omega) (by omega), Nat.le_of_lt H1.out.2.2.1, Nat.le_of_lt H1.out.2.2.2.1, Nat.le_of_lt H1.out.2.2.2.2⟩, ⟨lo, lc, ?_, (HP.out.2.1.ext0 ((H0.out.1.trans H4.out.1).trans hX)).up HUP.out⟩, H4.out.2.2.2.1.ext0 hX⟩⟩, ⟨(tcheck_zero HTC.out).1, ?_, dvNew_ok (by omega) (by omega), rfl⟩, by rw [hs3]; exact hX.at H4.out.2.2.2.2.1 (by simp), H4.out.1.trans hX, H5.out.2.2, H1.out.2.2.1, H1.out.2.2.2.1, H1.out.2.2.2.2, by omega, H4.out.2.2.2.2.2⟩
        · show _ = Value.agg #[.slice lo L0.length lc, .int .i64 0]
          rw [HP.out.2.2.1]
        · show L0.length ≤ 20
          rw [HP.out.2.2.1]
          exact HLN.out.2.2.2.2
      have hsame := setCell_same (o := 1) (v := .int .i64 0) hb6 rfl
      have hk6 := cell_of (j := 1) (v := .int .i64 0) hb6 rfl
      have hf6 := free_of hb6 1
      have HS0 := Lib.hid hst
      clear hst hb6
      go_wp2
      try rw [hw6]
      try rw [hh]
      clear hw6 hh hsame hk6 hf6
      go_loopg [14, 17] n (fun cnt p i wr => ∃ (j f : Nat) (L dn : List Tch) (D : Dv), p = .pointer (some ⟨f, 0, none⟩) ∧ i = .int .i64 j ∧ j + cnt = n ∧ FP w3 wr f d lb sb h g L dn D (20 + 20 * j))
      case atStart => exact ⟨0, f, L0, [], dvNew 4, rfl, rfl, by omega, HS0.out⟩
      case round =>
        clear HS0 H5 H4 H1
        obtain ⟨j, f, L, dn, D, rfl, rfl, hj, hst⟩ := hrel
        have HST := Lib.hid hst
        clear hst
        by_cases hlt : j < n
        · obtain ⟨b, off, rfl, x0, x1, x2⟩ : ∃ b off, ao = some ⟨b, off, none⟩ ∧ w.cell? ⟨b, off + j * 2, none⟩ = some (.int .i64 (A j).what) ∧ w.cell? ⟨b, off + j * 2 + 1, none⟩ = some (.slice (A j).bo (A j).M.length (A j).cap) ∧ TcAt w w.heap.size (A j).bo (A j).M := by
            rcases HP.out.1 with h | ⟨b, off, h1, h2⟩
            · omega
            · exact ⟨b, off, h1, h2 j hlt⟩
          obtain ⟨wo', wn, wcap, wm, sg, sc, tg, tc', wwo, wwc, hn1, hm1, hbh, hbg, hFS⟩ := HST.out.fc.open
          obtain ⟨nh, ng⟩ := HST.out.fc.ne
          have hjn : j ≤ 20 := by have := HLN.out.2.2.2.1; omega
          have HACT := Lib.hid (fun W (hE : Ext [] wr W) => fb_act (A j) f d lb sb w3.heap.size _ _ L dn D W (hFS.ext0 hE) (HST.out.ok.mono (by omega)) (Nat.le_trans HST.out.ext.size hE.size) ((x2.ext0 (H0.out.1.trans (HST.out.ext.trans hE))).up HUP.out) (HLN.out.1 j hlt))
          have HRD : Hid (∀ W, Ext [f, d, lb, sb] wr W → W.cell? ⟨h, 0, none⟩ = some (.slice wo' wn wcap) ∧ W.cell? ⟨h, 1, none⟩ = some (.int .i64 wm) ∧ W.cell? ⟨g, 0, none⟩ = some (.slice (some ⟨sg, 0, none⟩) D.n sc) ∧ W.cell? ⟨g, 1, none⟩ = some (.slice (some ⟨tg, 0, none⟩) D.n tc') ∧ W.cell? ⟨g, 2, none⟩ = some (.slice wwo D.W.length wwc) ∧ W.cell? ⟨b, off + j * 2, none⟩ = some (.int .i64 (A j).what) ∧ W.cell? ⟨b, off + j * 2 + 1, none⟩ = some (.slice (A j).bo (A j).M.length (A j).cap)) := fun W hE => by
            obtain ⟨q0, q1⟩ := pair' (hE.at hbh nh)
            obtain ⟨q2, q3, q4⟩ := three (hE.at hbg ng)
            have hEw := H0.out.1.trans (HST.out.extD hE).1
            exact ⟨q0, q1, q2, q3, q4, hEw.cell x0 (by simp), hEw.cell x1 (by simp)⟩
          have HGC := Lib.hid (And.intro hbh (And.intro hbg (And.intro nh ng)))
          have hi0 : (0 : Int) ≤ (j : Int) := by omega
          have hi1 : (j : Int) < (n : Int) := by omega
          have HJ := Lib.hid (And.intro hj (And.intro hlt hjn))
          clear hj hlt hjn x0 x1 x2 hn1 hm1 hbh hbg hFS nh ng
          go_upto_region 10 with fail
          refine wp_region_p4 [9, 10, 11, 12, 13, 15, 16] (hds4 [0, 1, 2, 3, 4, 5, 6, 7] (.tl 8 (pus4 [9, 10, 11, 12, 13] (tls4 [14, 15, 16] .done)))) (Ext [f, d, lb, sb] wr) (by kernel_rfl) (by kernel_rfl) (fun _ d _ _ _ h => by cases d <;> exact h) (Ext.refl _ _).drew ?_
          repeat (first
            | (refine wpPl_hd4 ?_ rfl (by rfl) (fun w hSw => ?_) ?_
               rotate_left
               · (obtain ⟨r0, r1, r2, r3, r4, r5, r6⟩ := HRD.out _ hSw; clear hSw; go_simp; first | exact ⟨rfl, rfl⟩ | exact rfl)
               simp only [Act.put, List.setIfInBounds_toArray, List.set_cons_zero, List.set_cons_succ]))
          refine wpPl_tl4 rfl (by rfl) (fun K hK => ?_)
          go_simp
          go_at_call 44
          refine (HACT.out _ (Ext.refl _ _).drew).mono ?_
          rintro e w5 ⟨f', v5, u5, rfl, hY, hS5, hf5⟩
          have hS5r := hS5.rf
          obtain ⟨ao5, cp5, rfl, _⟩ := hS5r
          have hS5d := hS5.rd
          obtain ⟨sg5, sc5, tg5, tc5, wo5, wc5, rfl, _, _, _⟩ := hS5d
          obtain ⟨n5, hn5⟩ : ∃ n5, ((actF (A j) L dn D).2.1 ++ (actF (A j) L dn D).1).length = n5 := ⟨_, rfl⟩
          obtain ⟨m5, hm5⟩ : ∃ m5, (actF (A j) L dn D).2.1.length = m5 := ⟨_, rfl⟩
          rw [hn5, hm5] at hS5 ⊢
          have hX5 : Ext [f, d, lb, sb] wr w5 := (Ext.refl [f, d, lb, sb] wr).drew.trans hY
          have hgh := hX5.at HGC.out.1 HGC.out.2.2.1
          have hgg := hX5.at HGC.out.2.1 HGC.out.2.2.2
          obtain ⟨s0, s1⟩ := pair' hgh
          obtain ⟨s2, s3, s4⟩ := three hgg
          have f0 := free_of hgh 0
          have f1 := free_of hgh 1
          have f2 := free_of hgg 0
          have f3 := free_of hgg 1
          have f4 := free_of hgg 2
          have hab : h ≠ g := fun hq => by rw [hq, hgg] at hgh; simp at hgh
          have hba : g ≠ h := hab.symm
          have HA5 := Lib.hid (And.intro hX5 (And.intro hS5 (show f' = f ∨ wr.heap.size ≤ f' from hf5)))
          refine hK _ _ (fun _ => HA5.out.1) ?_
          clear hK K hY hS5 hf5 hX5 hgh hgg hn5 hm5
          try simp only [Act.put, List.setIfInBounds_toArray, List.set_cons_zero, List.set_cons_succ]
          repeat (first
            | (refine wpPl_pu4 ?_ rfl (by rfl) (fun w => ?_) ?_
               rotate_left
               · (go_simp; first | exact ⟨rfl, rfl⟩ | exact rfl)
               simp only [Act.put, List.setIfInBounds_toArray, List.set_cons_zero, List.set_cons_succ]))
          refine wpPl_tl4 rfl (by rfl) (fun K hK => ?_)
          go_simp
          refine hK _ _ (fun _ => HA5.out.1) ?_
          clear hK K
          try simp only [Act.put, List.setIfInBounds_toArray, List.set_cons_zero, List.set_cons_succ]
          iterate 2 (
            refine wpPl_late4 rfl (by rfl) (by decide) (fun K hK => ?_)
            go_simp
            refine hK _ _ ?_
            clear hK K
            try simp only [Act.put, List.setIfInBounds_toArray, List.set_cons_zero, List.set_cons_succ])
          refine wpPl_done4 ?_
          obtain ⟨W9, hW9⟩ : ∃ W9, (((((w5.setCell ⟨h, 0, none⟩ (.slice ao5 n5 cp5)).setCell ⟨h, 1, none⟩ (.int .i64 m5)).setCell ⟨g, 0, none⟩ (.slice (some ⟨sg5, 0, none⟩) (actF (A j) L dn D).2.2.n sc5)).setCell ⟨g, 1, none⟩ (.slice (some ⟨tg5, 0, none⟩) (actF (A j) L dn D).2.2.n tc5)).setCell ⟨g, 2, none⟩ (.slice wo5 (actF (A j) L dn D).2.2.W.length wc5)) = W9 := ⟨_, rfl⟩
          have hst2 : FP w3 W9 f' d lb sb h g (actF (A j) L dn D).1 (actF (A j) L dn D).2.1 (actF (A j) L dn D).2.2 (20 + 20 * (j + 1)) := HST.out.step2 HA5.out.1 HA5.out.2.1 HA5.out.2.2 ((HST.out.ok.act (A j) (HLN.out.1 j HJ.out.2.1)).mono (by omega)) hW9
          try rw [hW9]
          have HS2 := Lib.hid hst2
          clear hst2 hW9 s0 s1 s2 s3 s4 f0 f1 f2 f3 f4 hab hba
          have HWJ : Hid (IntKind.i64.wrap ((j : Int) + 1) = ((j + 1 : Nat) : Int) ∧ wrap64 ((j : Int) + 1) = ((j + 1 : Nat) : Int)) := by
            have := wrap_succ (q := j) (m := j + 1) (by omega) (by have := HJ.out.2.2; omega)
            exact ⟨by rw [this.2]; rfl, by rw [this.1]; rfl⟩
          have HMZ : Hid ((∀ c, j + c = n → n - (j + 1) < c) ∧ j + 1 + (n - (j + 1)) = n) := by
            have := HJ.out
            exact ⟨fun c hc => by omega, by omega⟩
          go_wp2
          go_roundg (n - (j + 1))
          case measure => exact HMZ.out.1 _ HJ.out.1
          case rel => exact ⟨j + 1, f', _, _, _, rfl, by first | (rw [HWJ.out.1]) | (rw [HWJ.out.2]) | rfl, HMZ.out.2, HS2.out⟩
        · have hd : decide (j < n) = false := by simpa using hlt
          have hd2 : ¬ ((j : Int) < (n : Int)) := by omega
          have HOK : Hid (FOk L dn D 420) := HST.out.ok.mono (by have := HLN.out.2.2.2.1; omega)
          have HLL : Hid (L.length ≤ 420 ∧ dn.length ≤ 420) := by have := app_len HOK.out.len; exact ⟨this.2, this.1⟩
          clear hj hlt
          go_wp2_with fail
          refine (fb_Copy f w3.heap.size L dn wr HST.out.fib (by have := HLL.out.1; omega) (by have := HLL.out.2; omega)).mono ?_
          rintro e wa ⟨c, rfl, hFc, hEa, hc⟩
          have HCa := Lib.hid (And.intro hFc (And.intro hEa hc))
          clear hFc hEa hc hd hd2
          go_wp2_with fail
          refine (fb_Done f w3.heap.size L dn wa (HST.out.fib.ext0 HCa.out.2.1)).mono ?_
          rintro e wb ⟨bw, qo, qc, rfl, hEb, hKB, hbw⟩
          have HSB := Lib.hid (HST.out.ext1 (HCa.out.2.1.trans hEb))
          have HCb := Lib.hid (And.intro (HCa.out.1.ext0 hEb) (And.intro (HCa.out.2.1.trans hEb) (And.intro HCa.out.2.2 (And.intro hKB (And.intro hbw HCa.out.1.lt)))))
          clear hEb hKB hbw HCa
          have HFL := Lib.hid HST.out.fib.lt
          -- the copy's call
          obtain ⟨wo', wn, wcap, wm, sg, sc, tg, tc', wwo, wwc, hn1, hm1, hbh, hbg, hFS⟩ := HSB.out.fc.open
          have HXS : Hid (∀ (W : World) (c2 l2 s2 : Nat), Ext [] wb W → DevAt W c2 l2 s2 D → wb.heap.size ≤ c2 → wb.heap.size ≤ l2 → wb.heap.size ≤ s2 → FS W w3.heap.size c c2 l2 s2 (.agg #[.slice wo' wn wcap, .int .i64 wm]) (.agg #[.slice (some ⟨sg, 0, none⟩) D.n sc, .slice (some ⟨tg, 0, none⟩) D.n tc', .slice wwo D.W.length wwc]) L dn D) := fun W c2 l2 s2 hE hO h1 h2 h3 => by
            have := HSB.out.ext.size
            exact ⟨⟨HCb.out.1.ext0 hE, hO, HOK.out.ok, by omega, by omega, by omega⟩, hFS.rf.ext0 hE, hFS.rd.ext0 hE⟩
          have HCP := Lib.hid (fun W (hE : Ext [] wb W) => pm_Copy d lb sb D W (hFS.fd.dev.ext0 hE) HOK.out.ok)
          have HACT := Lib.hid (fun (W : World) (c2 l2 s2 : Nat) (hS : FS W w3.heap.size c c2 l2 s2 (.agg #[.slice wo' wn wcap, .int .i64 wm]) (.agg #[.slice (some ⟨sg, 0, none⟩) D.n sc, .slice (some ⟨tg, 0, none⟩) D.n tc', .slice wwo D.W.length wwc]) L dn D) (hE : Ext [] wb W) => fb_act x c c2 l2 s2 w3.heap.size _ _ L dn D W hS (HOK.out.mono (by omega)) (Nat.le_trans HSB.out.ext.size hE.size) ((HP.out.2.2.2.1.ext0 (H0.out.1.trans (HSB.out.ext.trans hE))).up HUP.out) HLN.out.2.1)
          have HRNa := Lib.hid HSB.out.ext.size
          have HRD : Hid (∀ W, Ext [c] wb W → W.cell? ⟨h, 0, none⟩ = some (.slice wo' wn wcap) ∧ W.cell? ⟨h, 1, none⟩ = some (.int .i64 wm) ∧ W.cell? ⟨g, 0, none⟩ = some (.slice (some ⟨sg, 0, none⟩) D.n sc) ∧ W.cell? ⟨g, 1, none⟩ = some (.slice (some ⟨tg, 0, none⟩) D.n tc') ∧ W.cell? ⟨g, 2, none⟩ = some (.slice wwo D.W.length wwc) ∧ W.cell? ⟨nb, 0, none⟩ = some (.int .i64 x.what) ∧ W.cell? ⟨nb, 1, none⟩ = some (.slice x.bo x.M.length x.cap)) := fun W hE => by
            obtain ⟨q0, q1⟩ := pair' (hE.at hbh (HCb.out.1.noT (by decide) _ _ hbh))
            obtain ⟨q2, q3, q4⟩ := three (hE.at hbg (HCb.out.1.noT (by decide) _ _ hbg))
            obtain ⟨q5, q6⟩ := pair' (hE.at (HB3.out _ HSB.out.ext).1 (by have := HCb.out.2.2.1; have := HST.out.ext.size; have := H0.out.2.2.1; simp; omega))
            exact ⟨q0, q1, q2, q3, q4, q5, q6⟩
          have HGC := Lib.hid (And.intro hbh (And.intro hbg (And.intro hn1 hm1)))
          clear hn1 hm1 hbh hbg hFS
          go_upto_region 13 with fail
          go_cut [18, 20, 21, 22] from 85 to 97 (fun s18 s20 s21 s22 wx => ∃ f' o q c2 l2 s2, s18 = .pointer (some ⟨f', 0, none⟩) ∧ s20 = .pointer (some ⟨o, 0, none⟩) ∧ s21 = .pointer (some ⟨q, 0, none⟩) ∧ s22 = .bool true ∧ AcS wb wx w3.heap.size c c2 l2 s2 f' o q (actF x L dn D))
          case first =>
            refine wp_region_p4 [7, 8, 9, 10, 11, 14, 15, 16, 17] (hds4 [0, 1, 3, 4, 5] (.three 2 (.three 6 (pus4 [7, 8, 9, 10, 11] (.two 12 (.tl 13 (tls4 [14, 15, 16, 17] .done)) 13 (.tl 12 (tls4 [14, 15, 16, 17] .done)))) 12 (.two 6 (pus4 [7, 8, 9, 10, 11] (.tl 13 (tls4 [14, 15, 16, 17] .done))) 13 (.tl 6 (pus4 [7, 8, 9, 10, 11] (tls4 [14, 15, 16, 17] .done)))) 13 (.two 6 (pus4 [7, 8, 9, 10, 11] (.tl 12 (tls4 [14, 15, 16, 17] .done))) 12 (.tl 6 (pus4 [7, 8, 9, 10, 11] (tls4 [14, 15, 16, 17] .done))))) 12 (.two 2 (.two 6 (pus4 [7, 8, 9, 10, 11] (.tl 13 (tls4 [14, 15, 16, 17] .done))) 13 (.tl 6 (pus4 [7, 8, 9, 10, 11] (tls4 [14, 15, 16, 17] .done)))) 13 (.tl 2 (.tl 6 (pus4 [7, 8, 9, 10, 11] (tls4 [14, 15, 16, 17] .done))))) 13 (.two 2 (.two 6 (pus4 [7, 8, 9, 10, 11] (.tl 12 (tls4 [14, 15, 16, 17] .done))) 12 (.tl 6 (pus4 [7, 8, 9, 10, 11] (tls4 [14, 15, 16, 17] .done)))) 12 (.tl 2 (.tl 6 (pus4 [7, 8, 9, 10, 11] (tls4 [14, 15, 16, 17] .done))))))) (Ext [c] wb) (by kernel_rfl) (by kernel_rfl) (fun _ d _ _ _ h => by cases d <;> exact h) (Ext.refl _ _).drew ?_
            repeat (first
              | (refine wpPl_hd4 ?_ rfl (by rfl) (fun w hSw => ?_) ?_
                 rotate_left
                 · (obtain ⟨r0, r1, r2, r3, r4, r5, r6⟩ := HRD.out _ hSw; clear hSw; go_simp; first | exact ⟨rfl, rfl⟩ | exact rfl)
                 simp only [Act.put, List.setIfInBounds_toArray, List.set_cons_zero, List.set_cons_succ]))
            obtain ⟨Wa0, hW0⟩ : ∃ W0, wb.drew = W0 := ⟨_, rfl⟩
            have HNa0 : Hid (Ext [] wb Wa0 ∧ True) := ⟨by rw [← hW0]; exact (Ext.refl _ _).drew, trivial⟩
            rw [hW0]
            clear hW0
            refine wpPl_three4 ?_ ?_ ?_
            · refine wpPl_tl4 rfl (by rfl) (fun K hK => ?_)
              go_simp
              go_at_call 17
              refine (HCP.out _ HNa0.out.1).mono ?_
              rintro e Wa1 ⟨c2, l2, s2, rfl, hY1, hO1, ho1, ho2, ho3⟩
              have HN1 := Lib.hid (And.intro (HNa0.out.1.trans hY1) (And.intro (HXS.out _ _ _ _ (HNa0.out.1.trans hY1) hO1 (Nat.le_trans HNa0.out.1.size ho1) (Nat.le_trans HNa0.out.1.size ho2) (Nat.le_trans HNa0.out.1.size ho3)) (And.intro (Nat.le_trans HNa0.out.1.size ho1) (And.intro (Nat.le_trans HNa0.out.1.size ho2) (Nat.le_trans HNa0.out.1.size ho3)))))
              refine hK _ _ (fun _ => HN1.out.1.wide) ?_
              clear hK K hY1 hO1 ho1 ho2 ho3
              try simp only [Act.put, List.setIfInBounds_toArray, List.set_cons_zero, List.set_cons_succ]
              refine wpPl_three4 ?_ ?_ ?_
              · refine wpPl_tl4 rfl (by rfl) (fun K hK => ?_)
                go_simp
                go_at_call 44
                refine (HACT.out _ _ _ _ HN1.out.2.1 HN1.out.1).mono ?_
                rintro e Wa2 ⟨f', v5, u5, rfl, hY2, hS5, hf5⟩
                have hS5r := hS5.rf
                obtain ⟨ao5, cp5, rfl, _⟩ := hS5r
                have hS5d := hS5.rd
                obtain ⟨sg5, sc5, tg5, tc5, wo5, wc5, rfl, _, _, _⟩ := hS5d
                obtain ⟨n5, hn5⟩ : ∃ n5, ((actF x L dn D).2.1 ++ (actF x L dn D).1).length = n5 := ⟨_, rfl⟩
                obtain ⟨m5, hm5⟩ : ∃ m5, (actF x L dn D).2.1.length = m5 := ⟨_, rfl⟩
                rw [hn5, hm5] at hS5 ⊢
                have HN2 := Lib.hid (And.intro (act_ext HN1.out.1 hY2 HN1.out.2.2) (And.intro hS5 (hf5.imp_right (Nat.le_trans HN1.out.1.size))))
                refine hK _ _ (fun _ => HN2.out.1) ?_
                clear hK K hY2 hS5 hf5 hn5 hm5
                try simp only [Act.put, List.setIfInBounds_toArray, List.set_cons_zero, List.set_cons_succ]
                repeat (first
                  | (refine wpPl_pu4 ?_ rfl (by rfl) (fun w => ?_) ?_
                     rotate_left
                     · (go_simp; first | exact ⟨rfl, rfl⟩ | exact rfl)
                     simp only [Act.put, List.setIfInBounds_toArray, List.set_cons_zero, List.set_cons_succ]))
                refine wpPl_two4 ?_ ?_
                · refine wpPl_tl4 rfl (by rfl) (fun K hK => ?_)
                  go_simp
                  obtain ⟨Wa3, hW3⟩ : ∃ Wa3, Wa2.alloc (.cells #[.slice none 0 0, .int .i64 0] 96) = Wa3 := ⟨_, rfl⟩
                  obtain ⟨oa, hoa⟩ : ∃ oa, Wa2.heap.size = oa := ⟨_, rfl⟩
                  have hY3 : Ext [] Wa2 Wa3 := by rw [← hW3]; exact (Ext.refl _ _).alloc _
                  have hZ3 : Wa3.heap[oa]? = some (.cells #[.slice none 0 0, .int .i64 0] 96 (0, 0)) := by rw [← hW3, ← hoa]; exact World.alloc_heap_new _ _
                  have HN3 := Lib.hid (And.intro (HN2.out.1.then hY3) (And.intro hZ3 (show wb.heap.size ≤ oa by have := HN2.out.1.size; omega)))
                  have HF3 := Lib.hid (FS.ext0 HN2.out.2.1 hY3)
                  try rw [hW3]
                  try rw [hoa]
                  refine hK _ _ (fun _ => HN3.out.1) ?_
                  clear hK K hY3 hZ3 hW3 hoa
                  try simp only [Act.put, List.setIfInBounds_toArray, List.set_cons_zero, List.set_cons_succ]
                  refine wpPl_tl4 rfl (by rfl) (fun K hK => ?_)
                  go_simp
                  obtain ⟨Wa4, hW4⟩ : ∃ Wa4, Wa3.alloc (.cells #[.slice none 0 0, .slice none 0 0, .slice none 0 0] 33) = Wa4 := ⟨_, rfl⟩
                  obtain ⟨ob, hob⟩ : ∃ ob, Wa3.heap.size = ob := ⟨_, rfl⟩
                  have hY4 : Ext [] Wa3 Wa4 := by rw [← hW4]; exact (Ext.refl _ _).alloc _
                  have hZ4 : Wa4.heap[ob]? = some (.cells #[.slice none 0 0, .slice none 0 0, .slice none 0 0] 33 (0, 0)) := by rw [← hW4, ← hob]; exact World.alloc_heap_new _ _
                  have HN4 := Lib.hid (And.intro (HN3.out.1.then hY4) (And.intro hZ4 (show wb.heap.size ≤ ob by have := HN3.out.1.size; omega)))
                  have HO4 := Lib.hid (And.intro (hY4.at HN3.out.2.1 (by simp)) HN3.out.2.2)
                  have HF4 := Lib.hid (FS.ext0 HF3.out hY4)
                  try rw [hW4]
                  try rw [hob]
                  refine hK _ _ (fun _ => HN4.out.1) ?_
                  clear hK K hY4 hZ4 hW4 hob
                  try simp only [Act.put, List.setIfInBounds_toArray, List.set_cons_zero, List.set_cons_succ]
                  have hA9 := HO4.out.1
                  have hB9 := HN4.out.2.1
                  obtain ⟨z0, z1⟩ := pair' hA9
                  obtain ⟨z2, z3, z4⟩ := three hB9
                  have f0 := free_of hA9 0
                  have f1 := free_of hA9 1
                  have f2 := free_of hB9 0
                  have f3 := free_of hB9 1
                  have f4 := free_of hB9 2
                  have hab : oa ≠ ob := fun h => by rw [h, hB9] at hA9; simp at hA9
                  have hba : ob ≠ oa := hab.symm
                  clear hA9 hB9
                  iterate 4 (
                    refine wpPl_late4 rfl (by rfl) (by decide) (fun K hK => ?_)
                    go_simp
                    refine hK _ _ ?_
                    clear hK K
                    try simp only [Act.put, List.setIfInBounds_toArray, List.set_cons_zero, List.set_cons_succ])
                  refine wpPl_done4 ?_
                  go_wp2_with fail
                  have hfin := AcS.of (S := actF x L dn D) HN4.out.1 HN2.out.2.2 HN1.out.2.2 HRNa.out HF4.out HO4.out.1 HN4.out.2.1 HO4.out.2 HN4.out.2.2 rfl
                  go_meet
                  exact ⟨f', oa, ob, c2, l2, s2, rfl, rfl, rfl, rfl, hfin⟩
                · refine wpPl_tl4 rfl (by rfl) (fun K hK => ?_)
                  go_simp
                  obtain ⟨Wa3, hW3⟩ : ∃ Wa3, Wa2.alloc (.cells #[.slice none 0 0, .slice none 0 0, .slice none 0 0] 33) = Wa3 := ⟨_, rfl⟩
                  obtain ⟨ob, hob⟩ : ∃ ob, Wa2.heap.size = ob := ⟨_, rfl⟩
                  have hY3 : Ext [] Wa2 Wa3 := by rw [← hW3]; exact (Ext.refl _ _).alloc _
                  have hZ3 : Wa3.heap[ob]? = some (.cells #[.slice none 0 0, .slice none 0 0, .slice none 0 0] 33 (0, 0)) := by rw [← hW3, ← hob]; exact World.alloc_heap_new _ _
                  have HN3 := Lib.hid (And.intro (HN2.out.1.then hY3) (And.intro hZ3 (show wb.heap.size ≤ ob by have := HN2.out.1.size; omega)))
                  have HF3 := Lib.hid (FS.ext0 HN2.out.2.1 hY3)
                  try rw [hW3]
                  try rw [hob]
                  refine hK _ _ (fun _ => HN3.out.1) ?_
                  clear hK K hY3 hZ3 hW3 hob
                  try simp only [Act.put, List.setIfInBounds_toArray, List.set_cons_zero, List.set_cons_succ]
                  refine wpPl_tl4 rfl (by rfl) (fun K hK => ?_)
                  go_simp
                  obtain ⟨Wa4, hW4⟩ : ∃ Wa4, Wa3.alloc (.cells #[.slice none 0 0, .int .i64 0] 96) = Wa4 := ⟨_, rfl⟩
                  obtain ⟨oa, hoa⟩ : ∃ oa, Wa3.heap.size = oa := ⟨_, rfl⟩
                  have hY4 : Ext [] Wa3 Wa4 := by rw [← hW4]; exact (Ext.refl _ _).alloc _
                  have hZ4 : Wa4.heap[oa]? = some (.cells #[.slice none 0 0, .int .i64 0] 96 (0, 0)) := by rw [← hW4, ← hoa]; exact World.alloc_heap_new _ _
                  have HN4 := Lib.hid (And.intro (HN3.out.1.then hY4) (And.intro hZ4 (show wb.heap.size ≤ oa by have := HN3.out.1.size; omega)))
                  have HO4 := Lib.hid (And.intro (hY4.at HN3.out.2.1 (by simp)) HN3.out.2.2)
                  have HF4 := Lib.hid (FS.ext0 HF3.out hY4)
                  try rw [hW4]
                  try rw [hoa]
                  refine hK _ _ (fun _ => HN4.out.1) ?_
                  clear hK K hY4 hZ4 hW4 hoa
                  try simp only [Act.put, List.setIfInBounds_toArray, List.set_cons_zero, List.set_cons_succ]
                  have hA9 := HN4.out.2.1
                  have hB9 := HO4.out.1
                  obtain ⟨z0, z1⟩ := pair' hA9
                  obtain ⟨z2, z3, z4⟩ := three hB9
                  have f0 := free_of hA9 0
                  have f1 := free_of hA9 1
                  have f2 := free_of hB9 0
                  have f3 := free_of hB9 1
                  have f4 := free_of hB9 2
                  have hab : oa ≠ ob := fun h => by rw [h, hB9] at hA9; simp at hA9
                  have hba : ob ≠ oa := hab.symm
                  clear hA9 hB9
                  iterate 4 (
                    refine wpPl_late4 rfl (by rfl) (by decide) (fun K hK => ?_)
                    go_simp
                    refine hK _ _ ?_
                    clear hK K
                    try simp only [Act.put, List.setIfInBounds_toArray, List.set_cons_zero, List.set_cons_succ])
                  refine wpPl_done4 ?_
                  go_wp2_with fail
                  have hfin := AcS.of (S := actF x L dn D) HN4.out.1 HN2.out.2.2 HN1.out.2.2 HRNa.out HF4.out HN4.out.2.1 HO4.out.1 HN4.out.2.2 HO4.out.2 rfl
                  go_meet
                  exact ⟨f', oa, ob, c2, l2, s2, rfl, rfl, rfl, rfl, hfin⟩
              · refine wpPl_tl4 rfl (by rfl) (fun K hK => ?_)
                go_simp
                obtain ⟨Wa2, hW2⟩ : ∃ Wa2, Wa1.alloc (.cells #[.slice none 0 0, .int .i64 0] 96) = Wa2 := ⟨_, rfl⟩
                obtain ⟨oa, hoa⟩ : ∃ oa, Wa1.heap.size = oa := ⟨_, rfl⟩
                have hY2 : Ext [] Wa1 Wa2 := by rw [← hW2]; exact (Ext.refl _ _).alloc _
                have hZ2 : Wa2.heap[oa]? = some (.cells #[.slice none 0 0, .int .i64 0] 96 (0, 0)) := by rw [← hW2, ← hoa]; exact World.alloc_heap_new _ _
                have HN2 := Lib.hid (And.intro (HN1.out.1.then hY2) (And.intro hZ2 (show wb.heap.size ≤ oa by have := HN1.out.1.size; omega)))
                have HF2 := Lib.hid (FS.ext0 HN1.out.2.1 hY2)
                try rw [hW2]
                try rw [hoa]
                refine hK _ _ (fun _ => HN2.out.1.wide) ?_
                clear hK K hY2 hZ2 hW2 hoa
                try simp only [Act.put, List.setIfInBounds_toArray, List.set_cons_zero, List.set_cons_succ]
                refine wpPl_two4 ?_ ?_
                · refine wpPl_tl4 rfl (by rfl) (fun K hK => ?_)
                  go_simp
                  go_at_call 44
                  refine (HACT.out _ _ _ _ HF2.out HN2.out.1).mono ?_
                  rintro e Wa3 ⟨f', v5, u5, rfl, hY3, hS5, hf5⟩
                  have hS5r := hS5.rf
                  obtain ⟨ao5, cp5, rfl, _⟩ := hS5r
                  have hS5d := hS5.rd
                  obtain ⟨sg5, sc5, tg5, tc5, wo5, wc5, rfl, _, _, _⟩ := hS5d
                  obtain ⟨n5, hn5⟩ : ∃ n5, ((actF x L dn D).2.1 ++ (actF x L dn D).1).length = n5 := ⟨_, rfl⟩
                  obtain ⟨m5, hm5⟩ : ∃ m5, (actF x L dn D).2.1.length = m5 := ⟨_, rfl⟩
                  rw [hn5, hm5] at hS5 ⊢
                  have HN3 := Lib.hid (And.intro (act_ext HN2.out.1 hY3 HN1.out.2.2) (And.intro hS5 (hf5.imp_right (Nat.le_trans HN2.out.1.size))))
                  have HOA3 := Lib.hid (And.intro (hY3.at HN2.out.2.1 ((FS.fd HF2.out).noT (by decide) (by decide) (by decide) _ _ HN2.out.2.1)) HN2.out.2.2)
                  refine hK _ _ (fun _ => HN3.out.1) ?_
                  clear hK K hY3 hS5 hf5 hn5 hm5
                  try simp only [Act.put, List.setIfInBounds_toArray, List.set_cons_zero, List.set_cons_succ]
                  repeat (first
                    | (refine wpPl_pu4 ?_ rfl (by rfl) (fun w => ?_) ?_
                       rotate_left
                       · (go_simp; first | exact ⟨rfl, rfl⟩ | exact rfl)
                       simp only [Act.put, List.setIfInBounds_toArray, List.set_cons_zero, List.set_cons_succ]))
                  refine wpPl_tl4 rfl (by rfl) (fun K hK => ?_)
                  go_simp
                  obtain ⟨Wa4, hW4⟩ : ∃ Wa4, Wa3.alloc (.cells #[.slice none 0 0, .slice none 0 0, .slice none 0 0] 33) = Wa4 := ⟨_, rfl⟩
                  obtain ⟨ob, hob⟩ : ∃ ob, Wa3.heap.size = ob := ⟨_, rfl⟩
                  have hY4 : Ext [] Wa3 Wa4 := by rw [← hW4]; exact (Ext.refl _ _).alloc _
                  have hZ4 : Wa4.heap[ob]? = some (.cells #[.slice none 0 0, .slice none 0 0, .slice none 0 0] 33 (0, 0)) := by rw [← hW4, ← hob]; exact World.alloc_heap_new _ _
                  have HN4 := Lib.hid (And.intro (HN3.out.1.then hY4) (And.intro hZ4 (show wb.heap.size ≤ ob by have := HN3.out.1.size; omega)))
                  have HO4 := Lib.hid (And.intro (hY4.at HOA3.out.1 (by simp)) HOA3.out.2)
                  have HF4 := Lib.hid (FS.ext0 HN3.out.2.1 hY4)
                  try rw [hW4]
                  try rw [hob]
                  refine hK _ _ (fun _ => HN4.out.1) ?_
                  clear hK K hY4 hZ4 hW4 hob
                  try simp only [Act.put, List.setIfInBounds_toArray, List.set_cons_zero, List.set_cons_succ]
                  have hA9 := HO4.out.1
                  have hB9 := HN4.out.2.1
                  obtain ⟨z0, z1⟩ := pair' hA9
                  obtain ⟨z2, z3, z4⟩ := three hB9
                  have f0 := free_of hA9 0
                  have f1 := free_of hA9 1
                  have f2 := free_of hB9 0
                  have f3 := free_of hB9 1
                  have f4 := free_of hB9 2
                  have hab : oa ≠ ob := fun h => by rw [h, hB9] at hA9; simp at hA9
                  have hba : ob ≠ oa := hab.symm
                  clear hA9 hB9
                  iterate 4 (
                    refine wpPl_late4 rfl (by rfl) (by decide) (fun K hK => ?_)
                    go_simp
                    refine hK _ _ ?_
                    clear hK K
                    try simp only [Act.put, List.setIfInBounds_toArray, List.set_cons_zero, List.set_cons_succ])
                  refine wpPl_done4 ?_
                  go_wp2_with fail
                  have hfin := AcS.of (S := actF x L dn D) HN4.out.1 HN3.out.2.2 HN1.out.2.2 HRNa.out HF4.out HO4.out.1 HN4.out.2.1 HO4.out.2 HN4.out.2.2 rfl
                  go_meet
                  exact ⟨f', oa, ob, c2, l2, s2, rfl, rfl, rfl, rfl, hfin⟩
                · refine wpPl_tl4 rfl (by rfl) (fun K hK => ?_)
                  go_simp
                  obtain ⟨Wa3, hW3⟩ : ∃ Wa3, Wa2.alloc (.cells #[.slice none 0 0, .slice none 0 0, .slice none 0 0] 33) = Wa3 := ⟨_, rfl⟩
                  obtain ⟨ob, hob⟩ : ∃ ob, Wa2.heap.size = ob := ⟨_, rfl⟩
                  have hY3 : Ext [] Wa2 Wa3 := by rw [← hW3]; exact (Ext.refl _ _).alloc _
                  have hZ3 : Wa3.heap[ob]? = some (.cells #[.slice none 0 0, .slice none 0 0, .slice none 0 0] 33 (0, 0)) := by rw [← hW3, ← hob]; exact World.alloc_heap_new _ _
                  have HN3 := Lib.hid (And.intro (HN2.out.1.then hY3) (And.intro hZ3 (show wb.heap.size ≤ ob by have := HN2.out.1.size; omega)))
                  have HO3 := Lib.hid (And.intro (hY3.at HN2.out.2.1 (by simp)) HN2.out.2.2)
                  have HF3 := Lib.hid (FS.ext0 HF2.out hY3)
                  try rw [hW3]
                  try rw [hob]
                  refine hK _ _ (fun _ => HN3.out.1.wide) ?_
                  clear hK K hY3 hZ3 hW3 hob
                  try simp only [Act.put, List.setIfInBounds_toArray, List.set_cons_zero, List.set_cons_succ]
                  refine wpPl_tl4 rfl (by rfl) (fun K hK => ?_)
                  go_simp
                  go_at_call 44
                  refine (HACT.out _ _ _ _ HF3.out HN3.out.1).mono ?_
                  rintro e Wa4 ⟨f', v5, u5, rfl, hY4, hS5, hf5⟩
                  have hS5r := hS5.rf
                  obtain ⟨ao5, cp5, rfl, _⟩ := hS5r
                  have hS5d := hS5.rd
                  obtain ⟨sg5, sc5, tg5, tc5, wo5, wc5, rfl, _, _, _⟩ := hS5d
                  obtain ⟨n5, hn5⟩ : ∃ n5, ((actF x L dn D).2.1 ++ (actF x L dn D).1).length = n5 := ⟨_, rfl⟩
                  obtain ⟨m5, hm5⟩ : ∃ m5, (actF x L dn D).2.1.length = m5 := ⟨_, rfl⟩
                  rw [hn5, hm5] at hS5 ⊢
                  have HN4 := Lib.hid (And.intro (act_ext HN3.out.1 hY4 HN1.out.2.2) (And.intro hS5 (hf5.imp_right (Nat.le_trans HN3.out.1.size))))
                  have HOA4 := Lib.hid (And.intro (hY4.at HO3.out.1 ((FS.fd HF3.out).noT (by decide) (by decide) (by decide) _ _ HO3.out.1)) HO3.out.2)
                  have HOB4 := Lib.hid (And.intro (hY4.at HN3.out.2.1 ((FS.fd HF3.out).noT (by decide) (by decide) (by decide) _ _ HN3.out.2.1)) HN3.out.2.2)
                  refine hK _ _ (fun _ => HN4.out.1) ?_
                  clear hK K hY4 hS5 hf5 hn5 hm5
                  try simp only [Act.put, List.setIfInBounds_toArray, List.set_cons_zero, List.set_cons_succ]
                  repeat (first
                    | (refine wpPl_pu4 ?_ rfl (by rfl) (fun w => ?_) ?_
                       rotate_left
                       · (go_simp; first | exact ⟨rfl, rfl⟩ | exact rfl)
                       simp only [Act.put, List.setIfInBounds_toArray, List.set_cons_zero, List.set_cons_succ]))
                  have hA9 := HOA4.out.1
                  have hB9 := HOB4.out.1
                  obtain ⟨z0, z1⟩ := pair' hA9
                  obtain ⟨z2, z3, z4⟩ := three hB9
                  have f0 := free_of hA9 0
                  have f1 := free_of hA9 1
                  have f2 := free_of hB9 0
                  have f3 := free_of hB9 1
                  have f4 := free_of hB9 2
                  have hab : oa ≠ ob := fun h => by rw [h, hB9] at hA9; simp at hA9
                  have hba : ob ≠ oa := hab.symm
                  clear hA9 hB9
                  iterate 4 (
                    refine wpPl_late4 rfl (by rfl) (by decide) (fun K hK => ?_)
                    go_simp
                    refine hK _ _ ?_
                    clear hK K
                    try simp only [Act.put, List.setIfInBounds_toArray, List.set_cons_zero, List.set_cons_succ])
                  refine wpPl_done4 ?_
                  go_wp2_with fail
                  have hfin := AcS.of (S := actF x L dn D) HN4.out.1 HN4.out.2.2 HN1.out.2.2 HRNa.out HN4.out.2.1 HOA4.out.1 HOB4.out.1 HOA4.out.2 HOB4.out.2 rfl
                  go_meet
                  exact ⟨f', oa, ob, c2, l2, s2, rfl, rfl, rfl, rfl, hfin⟩
              · refine wpPl_tl4 rfl (by rfl) (fun K hK => ?_)
                go_simp
                obtain ⟨Wa2, hW2⟩ : ∃ Wa2, Wa1.alloc (.cells #[.slice none 0 0, .slice none 0 0, .slice none 0 0] 33) = Wa2 := ⟨_, rfl⟩
                obtain ⟨ob, hob⟩ : ∃ ob, Wa1.heap.size = ob := ⟨_, rfl⟩
                have hY2 : Ext [] Wa1 Wa2 := by rw [← hW2]; exact (Ext.refl _ _).alloc _
                have hZ2 : Wa2.heap[ob]? = some (.cells #[.slice none 0 0, .slice none 0 0, .slice none 0 0] 33 (0, 0)) := by rw [← hW2, ← hob]; exact World.alloc_heap_new _ _
                have HN2 := Lib.hid (And.intro (HN1.out.1.then hY2) (And.intro hZ2 (show wb.heap.size ≤ ob by have := HN1.out.1.size; omega)))
                have HF2 := Lib.hid (FS.ext0 HN1.out.2.1 hY2)
                try rw [hW2]
                try rw [hob]
                refine hK _ _ (fun _ => HN2.out.1.wide) ?_
                clear hK K hY2 hZ2 hW2 hob
                try simp only [Act.put, List.setIfInBounds_toArray, List.set_cons_zero, List.set_cons_succ]
                refine wpPl_two4 ?_ ?_
                · refine wpPl_tl4 rfl (by rfl) (fun K hK => ?_)
                  go_simp
                  go_at_call 44
                  refine (HACT.out _ _ _ _ HF2.out HN2.out.1).mono ?_
                  rintro e Wa3 ⟨f', v5, u5, rfl, hY3, hS5, hf5⟩
                  have hS5r := hS5.rf
                  obtain ⟨ao5, cp5, rfl, _⟩ := hS5r
                  have hS5d := hS5.rd
                  obtain ⟨sg5, sc5, tg5, tc5, wo5, wc5, rfl, _, _, _⟩ := hS5d
                  obtain ⟨n5, hn5⟩ : ∃ n5, ((actF x L dn D).2.1 ++ (actF x L dn D).1).length = n5 := ⟨_, rfl⟩
                  obtain ⟨m5, hm5⟩ : ∃ m5, (actF x L dn D).2.1.length = m5 := ⟨_, rfl⟩
                  rw [hn5, hm5] at hS5 ⊢
                  have HN3 := Lib.hid (And.intro (act_ext HN2.out.1 hY3 HN1.out.2.2) (And.intro hS5 (hf5.imp_right (Nat.le_trans HN2.out.1.size))))
                  have HOB3 := Lib.hid (And.intro (hY3.at HN2.out.2.1 ((FS.fd HF2.out).noT (by decide) (by decide) (by decide) _ _ HN2.out.2.1)) HN2.out.2.2)
                  refine hK _ _ (fun _ => HN3.out.1) ?_
                  clear hK K hY3 hS5 hf5 hn5 hm5
                  try simp only [Act.put, List.setIfInBounds_toArray, List.set_cons_zero, List.set_cons_succ]
                  repeat (first
                    | (refine wpPl_pu4 ?_ rfl (by rfl) (fun w => ?_) ?_
                       rotate_left
                       · (go_simp; first | exact ⟨rfl, rfl⟩ | exact rfl)
                       simp only [Act.put, List.setIfInBounds_toArray, List.set_cons_zero, List.set_cons_succ]))
                  refine wpPl_tl4 rfl (by rfl) (fun K hK => ?_)
                  go_simp
                  obtain ⟨Wa4, hW4⟩ : ∃ Wa4, Wa3.alloc (.cells #[.slice none 0 0, .int .i64 0] 96) = Wa4 := ⟨_, rfl⟩
                  obtain ⟨oa, hoa⟩ : ∃ oa, Wa3.heap.size = oa := ⟨_, rfl⟩
                  have hY4 : Ext [] Wa3 Wa4 := by rw [← hW4]; exact (Ext.refl _ _).alloc _
                  have hZ4 : Wa4.heap[oa]? = some (.cells #[.slice none 0 0, .int .i64 0] 96 (0, 0)) := by rw [← hW4, ← hoa]; exact World.alloc_heap_new _ _
                  have HN4 := Lib.hid (And.intro (HN3.out.1.then hY4) (And.intro hZ4 (show wb.heap.size ≤ oa by have := HN3.out.1.size; omega)))
                  have HO4 := Lib.hid (And.intro (hY4.at HOB3.out.1 (by simp)) HOB3.out.2)
                  have HF4 := Lib.hid (FS.ext0 HN3.out.2.1 hY4)
                  try rw [hW4]
                  try rw [hoa]
                  refine hK _ _ (fun _ => HN4.out.1) ?_
                  clear hK K hY4 hZ4 hW4 hoa
                  try simp only [Act.put, List.setIfInBounds_toArray, List.set_cons_zero, List.set_cons_succ]
                  have hA9 := HN4.out.2.1
                  have hB9 := HO4.out.1
                  obtain ⟨z0, z1⟩ := pair' hA9
                  obtain ⟨z2, z3, z4⟩ := three hB9
                  have f0 := free_of hA9 0
                  have f1 := free_of hA9 1
                  have f2 := free_of hB9 0
                  have f3 := free_of hB9 1
                  have f4 := free_of hB9 2
                  have hab : oa ≠ ob := fun h => by rw [h, hB9] at hA9; simp at hA9
                  have hba : ob ≠ oa := hab.symm
                  clear hA9 hB9
                  iterate 4 (
                    refine wpPl_late4 rfl (by rfl) (by decide) (fun K hK => ?_)
                    go_simp
                    refine hK _ _ ?_
                    clear hK K
                    try simp only [Act.put, List.setIfInBounds_toArray, List.set_cons_zero, List.set_cons_succ])
                  refine wpPl_done4 ?_
                  go_wp2_with fail
                  have hfin := AcS.of (S := actF x L dn D) HN4.out.1 HN3.out.2.2 HN1.out.2.2 HRNa.out HF4.out HN4.out.2.1 HO4.out.1 HN4.out.2.2 HO4.out.2 rfl
                  go_meet
                  exact ⟨f', oa, ob, c2, l2, s2, rfl, rfl, rfl, rfl, hfin⟩
                · refine wpPl_tl4 rfl (by rfl) (fun K hK => ?_)
                  go_simp
                  obtain ⟨Wa3, hW3⟩ : ∃ Wa3, Wa2.alloc (.cells #[.slice none 0 0, .int .i64 0] 96) = Wa3 := ⟨_, rfl⟩
                  obtain ⟨oa, hoa⟩ : ∃ oa, Wa2.heap.size = oa := ⟨_, rfl⟩
                  have hY3 : Ext [] Wa2 Wa3 := by rw [← hW3]; exact (Ext.refl _ _).alloc _
                  have hZ3 : Wa3.heap[oa]? = some (.cells #[.slice none 0 0, .int .i64 0] 96 (0, 0)) := by rw [← hW3, ← hoa]; exact World.alloc_heap_new _ _
                  have HN3 := Lib.hid (And.intro (HN2.out.1.then hY3) (And.intro hZ3 (show wb.heap.size ≤ oa by have := HN2.out.1.size; omega)))
                  have HO3 := Lib.hid (And.intro (hY3.at HN2.out.2.1 (by simp)) HN2.out.2.2)
                  have HF3 := Lib.hid (FS.ext0 HF2.out hY3)
                  try rw [hW3]
                  try rw [hoa]
                  refine hK _ _ (fun _ => HN3.out.1.wide) ?_
                  clear hK K hY3 hZ3 hW3 hoa
                  try simp only [Act.put, List.setIfInBounds_toArray, List.set_cons_zero, List.set_cons_succ]
                  refine wpPl_tl4 rfl (by rfl) (fun K hK => ?_)
                  go_simp
                  go_at_call 44
                  refine (HACT.out _ _ _ _ HF3.out HN3.out.1).mono ?_
                  rintro e Wa4 ⟨f', v5, u5, rfl, hY4, hS5, hf5⟩
                  have hS5r := hS5.rf
                  obtain ⟨ao5, cp5, rfl, _⟩ := hS5r
                  have hS5d := hS5.rd
                  obtain ⟨sg5, sc5, tg5, tc5, wo5, wc5, rfl, _, _, _⟩ := hS5d
                  obtain ⟨n5, hn5⟩ : ∃ n5, ((actF x L dn D).2.1 ++ (actF x L dn D).1).length = n5 := ⟨_, rfl⟩
                  obtain ⟨m5, hm5⟩ : ∃ m5, (actF x L dn D).2.1.length = m5 := ⟨_, rfl⟩
                  rw [hn5, hm5] at hS5 ⊢
                  have HN4 := Lib.hid (And.intro (act_ext HN3.out.1 hY4 HN1.out.2.2) (And.intro hS5 (hf5.imp_right (Nat.le_trans HN3.out.1.size))))
                  have HOA4 := Lib.hid (And.intro (hY4.at HN3.out.2.1 ((FS.fd HF3.out).noT (by decide) (by decide) (by decide) _ _ HN3.out.2.1)) HN3.out.2.2)
                  have HOB4 := Lib.hid (And.intro (hY4.at HO3.out.1 ((FS.fd HF3.out).noT (by decide) (by decide) (by decide) _ _ HO3.out.1)) HO3.out.2)
                  refine hK _ _ (fun _ => HN4.out.1) ?_
                  clear hK K hY4 hS5 hf5 hn5 hm5
                  try simp only [Act.put, List.setIfInBounds_toArray, List.set_cons_zero, List.set_cons_succ]
                  repeat (first
                    | (refine wpPl_pu4 ?_ rfl (by rfl) (fun w => ?_) ?_
                       rotate_left
                       · (go_simp; first | exact ⟨rfl, rfl⟩ | exact rfl)
                       simp only [Act.put, List.setIfInBounds_toArray, List.set_cons_zero, List.set_cons_succ]))
                  have hA9 := HOA4.out.1
                  have hB9 := HOB4.out.1
                  obtain ⟨z0, z1⟩ := pair' hA9
                  obtain ⟨z2, z3, z4⟩ := three hB9
                  have f0 := free_of hA9 0
                  have f1 := free_of hA9 1
                  have f2 := free_of hB9 0
                  have f3 := free_of hB9 1
                  have f4 := free_of hB9 2
                  have hab : oa ≠ ob := fun h => by rw [h, hB9] at hA9; simp at hA9
                  have hba : ob ≠ oa := hab.symm
                  clear hA9 hB9
                  iterate 4 (
                    refine wpPl_late4 rfl (by rfl) (by decide) (fun K hK => ?_)
                    go_simp
                    refine hK _ _ ?_
                    clear hK K
                    try simp only [Act.put, List.setIfInBounds_toArray, List.set_cons_zero, List.set_cons_succ])
                  refine wpPl_done4 ?_
                  go_wp2_with fail
                  have hfin := AcS.of (S := actF x L dn D) HN4.out.1 HN4.out.2.2 HN1.out.2.2 HRNa.out HN4.out.2.1 HOA4.out.1 HOB4.out.1 HOA4.out.2 HOB4.out.2 rfl
                  go_meet
                  exact ⟨f', oa, ob, c2, l2, s2, rfl, rfl, rfl, rfl, hfin⟩
            · refine wpPl_tl4 rfl (by rfl) (fun K hK => ?_)
              go_simp
              obtain ⟨Wa1, hW1⟩ : ∃ Wa1, Wa0.alloc (.cells #[.slice none 0 0, .int .i64 0] 96) = Wa1 := ⟨_, rfl⟩
              obtain ⟨oa, hoa⟩ : ∃ oa, Wa0.heap.size = oa := ⟨_, rfl⟩
              have hY1 : Ext [] Wa0 Wa1 := by rw [← hW1]; exact (Ext.refl _ _).alloc _
              have hZ1 : Wa1.heap[oa]? = some (.cells #[.slice none 0 0, .int .i64 0] 96 (0, 0)) := by rw [← hW1, ← hoa]; exact World.alloc_heap_new _ _
              have HN1 := Lib.hid (And.intro (HNa0.out.1.then hY1) (And.intro hZ1 (show wb.heap.size ≤ oa by have := HNa0.out.1.size; omega)))
              try rw [hW1]
              try rw [hoa]
              refine hK _ _ (fun _ => HN1.out.1.wide) ?_
              clear hK K hY1 hZ1 hW1 hoa
              try simp only [Act.put, List.setIfInBounds_toArray, List.set_cons_zero, List.set_cons_succ]
              refine wpPl_two4 ?_ ?_
              · refine wpPl_tl4 rfl (by rfl) (fun K hK => ?_)
                go_simp
                go_at_call 17
                refine (HCP.out _ HN1.out.1).mono ?_
                rintro e Wa2 ⟨c2, l2, s2, rfl, hY2, hO2, ho1, ho2, ho3⟩
                have HN2 := Lib.hid (And.intro (HN1.out.1.trans hY2) (And.intro (HXS.out _ _ _ _ (HN1.out.1.trans hY2) hO2 (Nat.le_trans HN1.out.1.size ho1) (Nat.le_trans HN1.out.1.size ho2) (Nat.le_trans HN1.out.1.size ho3)) (And.intro (Nat.le_trans HN1.out.1.size ho1) (And.intro (Nat.le_trans HN1.out.1.size ho2) (Nat.le_trans HN1.out.1.size ho3)))))
                have HOA2 := Lib.hid (And.intro (hY2.at HN1.out.2.1 (by simp)) HN1.out.2.2)
                refine hK _ _ (fun _ => HN2.out.1.wide) ?_
                clear hK K hY2 hO2 ho1 ho2 ho3
                try simp only [Act.put, List.setIfInBounds_toArray, List.set_cons_zero, List.set_cons_succ]
                refine wpPl_two4 ?_ ?_
                · refine wpPl_tl4 rfl (by rfl) (fun K hK => ?_)
                  go_simp
                  go_at_call 44
                  refine (HACT.out _ _ _ _ HN2.out.2.1 HN2.out.1).mono ?_
                  rintro e Wa3 ⟨f', v5, u5, rfl, hY3, hS5, hf5⟩
                  have hS5r := hS5.rf
                  obtain ⟨ao5, cp5, rfl, _⟩ := hS5r
                  have hS5d := hS5.rd
                  obtain ⟨sg5, sc5, tg5, tc5, wo5, wc5, rfl, _, _, _⟩ := hS5d
                  obtain ⟨n5, hn5⟩ : ∃ n5, ((actF x L dn D).2.1 ++ (actF x L dn D).1).length = n5 := ⟨_, rfl⟩
                  obtain ⟨m5, hm5⟩ : ∃ m5, (actF x L dn D).2.1.length = m5 := ⟨_, rfl⟩
                  rw [hn5, hm5] at hS5 ⊢
                  have HN3 := Lib.hid (And.intro (act_ext HN2.out.1 hY3 HN2.out.2.2) (And.intro hS5 (hf5.imp_right (Nat.le_trans HN2.out.1.size))))
                  have HOA3 := Lib.hid (And.intro (hY3.at HOA2.out.1 ((FS.fd HN2.out.2.1).noT (by decide) (by decide) (by decide) _ _ HOA2.out.1)) HOA2.out.2)
                  refine hK _ _ (fun _ => HN3.out.1) ?_
                  clear hK K hY3 hS5 hf5 hn5 hm5
                  try simp only [Act.put, List.setIfInBounds_toArray, List.set_cons_zero, List.set_cons_succ]
                  repeat (first
                    | (refine wpPl_pu4 ?_ rfl (by rfl) (fun w => ?_) ?_
                       rotate_left
                       · (go_simp; first | exact ⟨rfl, rfl⟩ | exact rfl)
                       simp only [Act.put, List.setIfInBounds_toArray, List.set_cons_zero, List.set_cons_succ]))
                  refine wpPl_tl4 rfl (by rfl) (fun K hK => ?_)
                  go_simp
                  obtain ⟨Wa4, hW4⟩ : ∃ Wa4, Wa3.alloc (.cells #[.slice none 0 0, .slice none 0 0, .slice none 0 0] 33) = Wa4 := ⟨_, rfl⟩
                  obtain ⟨ob, hob⟩ : ∃ ob, Wa3.heap.size = ob := ⟨_, rfl⟩
                  have hY4 : Ext [] Wa3 Wa4 := by rw [← hW4]; exact (Ext.refl _ _).alloc _
                  have hZ4 : Wa4.heap[ob]? = some (.cells #[.slice none 0 0, .slice none 0 0, .slice none 0 0] 33 (0, 0)) := by rw [← hW4, ← hob]; exact World.alloc_heap_new _ _
                  have HN4 := Lib.hid (And.intro (HN3.out.1.then hY4) (And.intro hZ4 (show wb.heap.size ≤ ob by have := HN3.out.1.size; omega)))
                  have HO4 := Lib.hid (And.intro (hY4.at HOA3.out.1 (by simp)) HOA3.out.2)
                  have HF4 := Lib.hid (FS.ext0 HN3.out.2.1 hY4)
                  try rw [hW4]
                  try rw [hob]
                  refine hK _ _ (fun _ => HN4.out.1) ?_
                  clear hK K hY4 hZ4 hW4 hob
                  try simp only [Act.put, List.setIfInBounds_toArray, List.set_cons_zero, List.set_cons_succ]
                  have hA9 := HO4.out.1
                  have hB9 := HN4.out.2.1
                  obtain ⟨z0, z1⟩ := pair' hA9
                  obtain ⟨z2, z3, z4⟩ := three hB9
                  have f0 := free_of hA9 0
                  have f1 := free_of hA9 1
                  have f2 := free_of hB9 0
                  have f3 := free_of hB9 1
                  have f4 := free_of hB9 2
                  have hab : oa ≠ ob := fun h => by rw [h, hB9] at hA9; simp at hA9
                  have hba : ob ≠ oa := hab.symm
                  clear hA9 hB9
                  iterate 4 (
                    refine wpPl_late4 rfl (by rfl) (by decide) (fun K hK => ?_)
                    go_simp
                    refine hK _ _ ?_
                    clear hK K
                    try simp only [Act.put, List.setIfInBounds_toArray, List.set_cons_zero, List.set_cons_succ])
                  refine wpPl_done4 ?_
                  go_wp2_with fail
                  have hfin := AcS.of (S := actF x L dn D) HN4.out.1 HN3.out.2.2 HN2.out.2.2 HRNa.out HF4.out HO4.out.1 HN4.out.2.1 HO4.out.2 HN4.out.2.2 rfl
                  go_meet
                  exact ⟨f', oa, ob, c2, l2, s2, rfl, rfl, rfl, rfl, hfin⟩
                · refine wpPl_tl4 rfl (by rfl) (fun K hK => ?_)
                  go_simp
                  obtain ⟨Wa3, hW3⟩ : ∃ Wa3, Wa2.alloc (.cells #[.slice none 0 0, .slice none 0 0, .slice none 0 0] 33) = Wa3 := ⟨_, rfl⟩
                  obtain ⟨ob, hob⟩ : ∃ ob, Wa2.heap.size = ob := ⟨_, rfl⟩
                  have hY3 : Ext [] Wa2 Wa3 := by rw [← hW3]; exact (Ext.refl _ _).alloc _
                  have hZ3 : Wa3.heap[ob]? = some (.cells #[.slice none 0 0, .slice none 0 0, .slice none 0 0] 33 (0, 0)) := by rw [← hW3, ← hob]; exact World.alloc_heap_new _ _
                  have HN3 := Lib.hid (And.intro (HN2.out.1.then hY3) (And.intro hZ3 (show wb.heap.size ≤ ob by have := HN2.out.1.size; omega)))
                  have HO3 := Lib.hid (And.intro (hY3.at HOA2.out.1 (by simp)) HOA2.out.2)
                  have HF3 := Lib.hid (FS.ext0 HN2.out.2.1 hY3)
                  try rw [hW3]
                  try rw [hob]
                  refine hK _ _ (fun _ => HN3.out.1.wide) ?_
                  clear hK K hY3 hZ3 hW3 hob
                  try simp only [Act.put, List.setIfInBounds_toArray, List.set_cons_zero, List.set_cons_succ]
                  refine wpPl_tl4 rfl (by rfl) (fun K hK => ?_)
                  go_simp
                  go_at_call 44
                  refine (HACT.out _ _ _ _ HF3.out HN3.out.1).mono ?_
                  rintro e Wa4 ⟨f', v5, u5, rfl, hY4, hS5, hf5⟩
                  have hS5r := hS5.rf
                  obtain ⟨ao5, cp5, rfl, _⟩ := hS5r
                  have hS5d := hS5.rd
                  obtain ⟨sg5, sc5, tg5, tc5, wo5, wc5, rfl, _, _, _⟩ := hS5d
                  obtain ⟨n5, hn5⟩ : ∃ n5, ((actF x L dn D).2.1 ++ (actF x L dn D).1).length = n5 := ⟨_, rfl⟩
                  obtain ⟨m5, hm5⟩ : ∃ m5, (actF x L dn D).2.1.length = m5 := ⟨_, rfl⟩
                  rw [hn5, hm5] at hS5 ⊢
                  have HN4 := Lib.hid (And.intro (act_ext HN3.out.1 hY4 HN2.out.2.2) (And.intro hS5 (hf5.imp_right (Nat.le_trans HN3.out.1.size))))
                  have HOA4 := Lib.hid (And.intro (hY4.at HO3.out.1 ((FS.fd HF3.out).noT (by decide) (by decide) (by decide) _ _ HO3.out.1)) HO3.out.2)
                  have HOB4 := Lib.hid (And.intro (hY4.at HN3.out.2.1 ((FS.fd HF3.out).noT (by decide) (by decide) (by decide) _ _ HN3.out.2.1)) HN3.out.2.2)
                  refine hK _ _ (fun _ => HN4.out.1) ?_
                  clear hK K hY4 hS5 hf5 hn5 hm5
                  try simp only [Act.put, List.setIfInBounds_toArray, List.set_cons_zero, List.set_cons_succ]
                  repeat (first
                    | (refine wpPl_pu4 ?_ rfl (by rfl) (fun w => ?_) ?_
                       rotate_left
                       · (go_simp; first | exact ⟨rfl, rfl⟩ | exact rfl)
                       simp only [Act.put, List.setIfInBounds_toArray, List.set_cons_zero, List.set_cons_succ]))
                  have hA9 := HOA4.out.1
                  have hB9 := HOB4.out.1
                  obtain ⟨z0, z1⟩ := pair' hA9
                  obtain ⟨z2, z3, z4⟩ := three hB9
                  have f0 := free_of hA9 0
                  have f1 := free_of hA9 1
                  have f2 := free_of hB9 0
                  have f3 := free_of hB9 1
                  have f4 := free_of hB9 2
                  have hab : oa ≠ ob := fun h => by rw [h, hB9] at hA9; simp at hA9
                  have hba : ob ≠ oa := hab.symm
                  clear hA9 hB9
                  iterate 4 (
                    refine wpPl_late4 rfl (by rfl) (by decide) (fun K hK => ?_)
                    go_simp
                    refine hK _ _ ?_
                    clear hK K
                    try simp only [Act.put, List.setIfInBounds_toArray, List.set_cons_zero, List.set_cons_succ])
                  refine wpPl_done4 ?_
                  go_wp2_with fail
                  have hfin := AcS.of (S := actF x L dn D) HN4.out.1 HN4.out.2.2 HN2.out.2.2 HRNa.out HN4.out.2.1 HOA4.out.1 HOB4.out.1 HOA4.out.2 HOB4.out.2 rfl
                  go_meet
                  exact ⟨f', oa, ob, c2, l2, s2, rfl, rfl, rfl, rfl, hfin⟩
              · refine wpPl_tl4 rfl (by rfl) (fun K hK => ?_)
                go_simp
                obtain ⟨Wa2, hW2⟩ : ∃ Wa2, Wa1.alloc (.cells #[.slice none 0 0, .slice none 0 0, .slice none 0 0] 33) = Wa2 := ⟨_, rfl⟩
                obtain ⟨ob, hob⟩ : ∃ ob, Wa1.heap.size = ob := ⟨_, rfl⟩
                have hY2 : Ext [] Wa1 Wa2 := by rw [← hW2]; exact (Ext.refl _ _).alloc _
                have hZ2 : Wa2.heap[ob]? = some (.cells #[.slice none 0 0, .slice none 0 0, .slice none 0 0] 33 (0, 0)) := by rw [← hW2, ← hob]; exact World.alloc_heap_new _ _
                have HN2 := Lib.hid (And.intro (HN1.out.1.then hY2) (And.intro hZ2 (show wb.heap.size ≤ ob by have := HN1.out.1.size; omega)))
                have HO2 := Lib.hid (And.intro (hY2.at HN1.out.2.1 (by simp)) HN1.out.2.2)
                try rw [hW2]
                try rw [hob]
                refine hK _ _ (fun _ => HN2.out.1.wide) ?_
                clear hK K hY2 hZ2 hW2 hob
                try simp only [Act.put, List.setIfInBounds_toArray, List.set_cons_zero, List.set_cons_succ]
                refine wpPl_tl4 rfl (by rfl) (fun K hK => ?_)
                go_simp
                go_at_call 17
                refine (HCP.out _ HN2.out.1).mono ?_
                rintro e Wa3 ⟨c2, l2, s2, rfl, hY3, hO3, ho1, ho2, ho3⟩
                have HN3 := Lib.hid (And.intro (HN2.out.1.trans hY3) (And.intro (HXS.out _ _ _ _ (HN2.out.1.trans hY3) hO3 (Nat.le_trans HN2.out.1.size ho1) (Nat.le_trans HN2.out.1.size ho2) (Nat.le_trans HN2.out.1.size ho3)) (And.intro (Nat.le_trans HN2.out.1.size ho1) (And.intro (Nat.le_trans HN2.out.1.size ho2) (Nat.le_trans HN2.out.1.size ho3)))))
                have HOA3 := Lib.hid (And.intro (hY3.at HO2.out.1 (by simp)) HO2.out.2)
                have HOB3 := Lib.hid (And.intro (hY3.at HN2.out.2.1 (by simp)) HN2.out.2.2)
                refine hK _ _ (fun _ => HN3.out.1.wide) ?_
                clear hK K hY3 hO3 ho1 ho2 ho3
                try simp only [Act.put, List.setIfInBounds_toArray, List.set_cons_zero, List.set_cons_succ]
                refine wpPl_tl4 rfl (by rfl) (fun K hK => ?_)
                go_simp
                go_at_call 44
                refine (HACT.out _ _ _ _ HN3.out.2.1 HN3.out.1).mono ?_
                rintro e Wa4 ⟨f', v5, u5, rfl, hY4, hS5, hf5⟩
                have hS5r := hS5.rf
                obtain ⟨ao5, cp5, rfl, _⟩ := hS5r
                have hS5d := hS5.rd
                obtain ⟨sg5, sc5, tg5, tc5, wo5, wc5, rfl, _, _, _⟩ := hS5d
                obtain ⟨n5, hn5⟩ : ∃ n5, ((actF x L dn D).2.1 ++ (actF x L dn D).1).length = n5 := ⟨_, rfl⟩
                obtain ⟨m5, hm5⟩ : ∃ m5, (actF x L dn D).2.1.length = m5 := ⟨_, rfl⟩
                rw [hn5, hm5] at hS5 ⊢
                have HN4 := Lib.hid (And.intro (act_ext HN3.out.1 hY4 HN3.out.2.2) (And.intro hS5 (hf5.imp_right (Nat.le_trans HN3.out.1.size))))
                have HOA4 := Lib.hid (And.intro (hY4.at HOA3.out.1 ((FS.fd HN3.out.2.1).noT (by decide) (by decide) (by decide) _ _ HOA3.out.1)) HOA3.out.2)
                have HOB4 := Lib.hid (And.intro (hY4.at HOB3.out.1 ((FS.fd HN3.out.2.1).noT (by decide) (by decide) (by decide) _ _ HOB3.out.1)) HOB3.out.2)
                refine hK _ _ (fun _ => HN4.out.1) ?_
                clear hK K hY4 hS5 hf5 hn5 hm5
                try simp only [Act.put, List.setIfInBounds_toArray, List.set_cons_zero, List.set_cons_succ]
                repeat (first
                  | (refine wpPl_pu4 ?_ rfl (by rfl) (fun w => ?_) ?_
                     rotate_left
                     · (go_simp; first | exact ⟨rfl, rfl⟩ | exact rfl)
                     simp only [Act.put, List.setIfInBounds_toArray, List.set_cons_zero, List.set_cons_succ]))
                have hA9 := HOA4.out.1
                have hB9 := HOB4.out.1
                obtain ⟨z0, z1⟩ := pair' hA9
                obtain ⟨z2, z3, z4⟩ := three hB9
                have f0 := free_of hA9 0
                have f1 := free_of hA9 1
                have f2 := free_of hB9 0
                have f3 := free_of hB9 1
                have f4 := free_of hB9 2
                have hab : oa ≠ ob := fun h => by rw [h, hB9] at hA9; simp at hA9
                have hba : ob ≠ oa := hab.symm
                clear hA9 hB9
                iterate 4 (
                  refine wpPl_late4 rfl (by rfl) (by decide) (fun K hK => ?_)
                  go_simp
                  refine hK _ _ ?_
                  clear hK K
                  try simp only [Act.put, List.setIfInBounds_toArray, List.set_cons_zero, List.set_cons_succ])
                refine wpPl_done4 ?_
                go_wp2_with fail
                have hfin := AcS.of (S := actF x L dn D) HN4.out.1 HN4.out.2.2 HN3.out.2.2 HRNa.out HN4.out.2.1 HOA4.out.1 HOB4.out.1 HOA4.out.2 HOB4.out.2 rfl
                go_meet
                exact ⟨f', oa, ob, c2, l2, s2, rfl, rfl, rfl, rfl, hfin⟩
            · refine wpPl_tl4 rfl (by rfl) (fun K hK => ?_)
              go_simp
              obtain ⟨Wa1, hW1⟩ : ∃ Wa1, Wa0.alloc (.cells #[.slice none 0 0, .slice none 0 0, .slice none 0 0] 33) = Wa1 := ⟨_, rfl⟩
              obtain ⟨ob, hob⟩ : ∃ ob, Wa0.heap.size = ob := ⟨_, rfl⟩
              have hY1 : Ext [] Wa0 Wa1 := by rw [← hW1]; exact (Ext.refl _ _).alloc _
              have hZ1 : Wa1.heap[ob]? = some (.cells #[.slice none 0 0, .slice none 0 0, .slice none 0 0] 33 (0, 0)) := by rw [← hW1, ← hob]; exact World.alloc_heap_new _ _
              have HN1 := Lib.hid (And.intro (HNa0.out.1.then hY1) (And.intro hZ1 (show wb.heap.size ≤ ob by have := HNa0.out.1.size; omega)))
              try rw [hW1]
              try rw [hob]
              refine hK _ _ (fun _ => HN1.out.1.wide) ?_
              clear hK K hY1 hZ1 hW1 hob
              try simp only [Act.put, List.setIfInBounds_toArray, List.set_cons_zero, List.set_cons_succ]
              refine wpPl_two4 ?_ ?_
              · refine wpPl_tl4 rfl (by rfl) (fun K hK => ?_)
                go_simp
                go_at_call 17
                refine (HCP.out _ HN1.out.1).mono ?_
                rintro e Wa2 ⟨c2, l2, s2, rfl, hY2, hO2, ho1, ho2, ho3⟩
                have HN2 := Lib.hid (And.intro (HN1.out.1.trans hY2) (And.intro (HXS.out _ _ _ _ (HN1.out.1.trans hY2) hO2 (Nat.le_trans HN1.out.1.size ho1) (Nat.le_trans HN1.out.1.size ho2) (Nat.le_trans HN1.out.1.size ho3)) (And.intro (Nat.le_trans HN1.out.1.size ho1) (And.intro (Nat.le_trans HN1.out.1.size ho2) (Nat.le_trans HN1.out.1.size ho3)))))
                have HOB2 := Lib.hid (And.intro (hY2.at HN1.out.2.1 (by simp)) HN1.out.2.2)
                refine hK _ _ (fun _ => HN2.out.1.wide) ?_
                clear hK K hY2 hO2 ho1 ho2 ho3
                try simp only [Act.put, List.setIfInBounds_toArray, List.set_cons_zero, List.set_cons_succ]
                refine wpPl_two4 ?_ ?_
                · refine wpPl_tl4 rfl (by rfl) (fun K hK => ?_)
                  go_simp
                  go_at_call 44
                  refine (HACT.out _ _ _ _ HN2.out.2.1 HN2.out.1).mono ?_
                  rintro e Wa3 ⟨f', v5, u5, rfl, hY3, hS5, hf5⟩
                  have hS5r := hS5.rf
                  obtain ⟨ao5, cp5, rfl, _⟩ := hS5r
                  have hS5d := hS5.rd
                  obtain ⟨sg5, sc5, tg5, tc5, wo5, wc5, rfl, _, _, _⟩ := hS5d
                  obtain ⟨n5, hn5⟩ : ∃ n5, ((actF x L dn D).2.1 ++ (actF x L dn D).1).length = n5 := ⟨_, rfl⟩
                  obtain ⟨m5, hm5⟩ : ∃ m5, (actF x L dn D).2.1.length = m5 := ⟨_, rfl⟩
                  rw [hn5, hm5] at hS5 ⊢
                  have HN3 := Lib.hid (And.intro (act_ext HN2.out.1 hY3 HN2.out.2.2) (And.intro hS5 (hf5.imp_right (Nat.le_trans HN2.out.1.size))))
                  have HOB3 := Lib.hid (And.intro (hY3.at HOB2.out.1 ((FS.fd HN2.out.2.1).noT (by decide) (by decide) (by decide) _ _ HOB2.out.1)) HOB2.out.2)
                  refine hK _ _ (fun _ => HN3.out.1) ?_
                  clear hK K hY3 hS5 hf5 hn5 hm5
                  try simp only [Act.put, List.setIfInBounds_toArray, List.set_cons_zero, List.set_cons_succ]
                  repeat (first
                    | (refine wpPl_pu4 ?_ rfl (by rfl) (fun w => ?_) ?_
                       rotate_left
                       · (go_simp; first | exact ⟨rfl, rfl⟩ | exact rfl)
                       simp only [Act.put, List.setIfInBounds_toArray, List.set_cons_zero, List.set_cons_succ]))
                  refine wpPl_tl4 rfl (by rfl) (fun K hK => ?_)
                  go_simp
                  obtain ⟨Wa4, hW4⟩ : ∃ Wa4, Wa3.alloc (.cells #[.slice none 0 0, .int .i64 0] 96) = Wa4 := ⟨_, rfl⟩
                  obtain ⟨oa, hoa⟩ : ∃ oa, Wa3.heap.size = oa := ⟨_, rfl⟩
                  have hY4 : Ext [] Wa3 Wa4 := by rw [← hW4]; exact (Ext.refl _ _).alloc _
                  have hZ4 : Wa4.heap[oa]? = some (.cells #[.slice none 0 0, .int .i64 0] 96 (0, 0)) := by rw [← hW4, ← hoa]; exact World.alloc_heap_new _ _
                  have HN4 := Lib.hid (And.intro (HN3.out.1.then hY4) (And.intro hZ4 (show wb.heap.size ≤ oa by have := HN3.out.1.size; omega)))
                  have HO4 := Lib.hid (And.intro (hY4.at HOB3.out.1 (by simp)) HOB3.out.2)
                  have HF4 := Lib.hid (FS.ext0 HN3.out.2.1 hY4)
                  try rw [hW4]
                  try rw [hoa]
                  refine hK _ _ (fun _ => HN4.out.1) ?_
                  clear hK K hY4 hZ4 hW4 hoa
                  try simp only [Act.put, List.setIfInBounds_toArray, List.set_cons_zero, List.set_cons_succ]
                  have hA9 := HN4.out.2.1
                  have hB9 := HO4.out.1
                  obtain ⟨z0, z1⟩ := pair' hA9
                  obtain ⟨z2, z3, z4⟩ := three hB9
                  have f0 := free_of hA9 0
                  have f1 := free_of hA9 1
                  have f2 := free_of hB9 0
                  have f3 := free_of hB9 1
                  have f4 := free_of hB9 2
                  have hab : oa ≠ ob := fun h => by rw [h, hB9] at hA9; simp at hA9
                  have hba : ob ≠ oa := hab.symm
                  clear hA9 hB9
                  iterate 4 (
                    refine wpPl_late4 rfl (by rfl) (by decide) (fun K hK => ?_)
                    go_simp
                    refine hK _ _ ?_
                    clear hK K
                    try simp only [Act.put, List.setIfInBounds_toArray, List.set_cons_zero, List.set_cons_succ])
                  refine wpPl_done4 ?_
                  go_wp2_with fail
                  have hfin := AcS.of (S := actF x L dn D) HN4.out.1 HN3.out.2.2 HN2.out.2.2 HRNa.out HF4.out HN4.out.2.1 HO4.out.1 HN4.out.2.2 HO4.out.2 rfl
                  go_meet
                  exact ⟨f', oa, ob, c2, l2, s2, rfl, rfl, rfl, rfl, hfin⟩
                · refine wpPl_tl4 rfl (by rfl) (fun K hK => ?_)
                  go_simp
                  obtain ⟨Wa3, hW3⟩ : ∃ Wa3, Wa2.alloc (.cells #[.slice none 0 0, .int .i64 0] 96) = Wa3 := ⟨_, rfl⟩
                  obtain ⟨oa, hoa⟩ : ∃ oa, Wa2.heap.size = oa := ⟨_, rfl⟩
                  have hY3 : Ext [] Wa2 Wa3 := by rw [← hW3]; exact (Ext.refl _ _).alloc _
                  have hZ3 : Wa3.heap[oa]? = some (.cells #[.slice none 0 0, .int .i64 0] 96 (0, 0)) := by rw [← hW3, ← hoa]; exact World.alloc_heap_new _ _
                  have HN3 := Lib.hid (And.intro (HN2.out.1.then hY3) (And.intro hZ3 (show wb.heap.size ≤ oa by have := HN2.out.1.size; omega)))
                  have HO3 := Lib.hid (And.intro (hY3.at HOB2.out.1 (by simp)) HOB2.out.2)
                  have HF3 := Lib.hid (FS.ext0 HN2.out.2.1 hY3)
                  try rw [hW3]
                  try rw [hoa]
                  refine hK _ _ (fun _ => HN3.out.1.wide) ?_
                  clear hK K hY3 hZ3 hW3 hoa
                  try simp only [Act.put, List.setIfInBounds_toArray, List.set_cons_zero, List.set_cons_succ]
                  refine wpPl_tl4 rfl (by rfl) (fun K hK => ?_)
                  go_simp
                  go_at_call 44
                  refine (HACT.out _ _ _ _ HF3.out HN3.out.1).mono ?_
                  rintro e Wa4 ⟨f', v5, u5, rfl, hY4, hS5, hf5⟩
                  have hS5r := hS5.rf
                  obtain ⟨ao5, cp5, rfl, _⟩ := hS5r
                  have hS5d := hS5.rd
                  obtain ⟨sg5, sc5, tg5, tc5, wo5, wc5, rfl, _, _, _⟩ := hS5d
                  obtain ⟨n5, hn5⟩ : ∃ n5, ((actF x L dn D).2.1 ++ (actF x L dn D).1).length = n5 := ⟨_, rfl⟩
                  obtain ⟨m5, hm5⟩ : ∃ m5, (actF x L dn D).2.1.length = m5 := ⟨_, rfl⟩
                  rw [hn5, hm5] at hS5 ⊢
                  have HN4 := Lib.hid (And.intro (act_ext HN3.out.1 hY4 HN2.out.2.2) (And.intro hS5 (hf5.imp_right (Nat.le_trans HN3.out.1.size))))
                  have HOA4 := Lib.hid (And.intro (hY4.at HN3.out.2.1 ((FS.fd HF3.out).noT (by decide) (by decide) (by decide) _ _ HN3.out.2.1)) HN3.out.2.2)
                  have HOB4 := Lib.hid (And.intro (hY4.at HO3.out.1 ((FS.fd HF3.out).noT (by decide) (by decide) (by decide) _ _ HO3.out.1)) HO3.out.2)
                  refine hK _ _ (fun _ => HN4.out.1) ?_
                  clear hK K hY4 hS5 hf5 hn5 hm5
                  try simp only [Act.put, List.setIfInBounds_toArray, List.set_cons_zero, List.set_cons_succ]
                  repeat (first
                    | (refine wpPl_pu4 ?_ rfl (by rfl) (fun w => ?_) ?_
                       rotate_left
                       · (go_simp; first | exact ⟨rfl, rfl⟩ | exact rfl)
                       simp only [Act.put, List.setIfInBounds_toArray, List.set_cons_zero, List.set_cons_succ]))
                  have hA9 := HOA4.out.1
                  have hB9 := HOB4.out.1
                  obtain ⟨z0, z1⟩ := pair' hA9
                  obtain ⟨z2, z3, z4⟩ := three hB9
                  have f0 := free_of hA9 0
                  have f1 := free_of hA9 1
                  have f2 := free_of hB9 0
                  have f3 := free_of hB9 1
                  have f4 := free_of hB9 2
                  have hab : oa ≠ ob := fun h => by rw [h, hB9] at hA9; simp at hA9
                  have hba : ob ≠ oa := hab.symm
                  clear hA9 hB9
                  iterate 4 (
                    refine wpPl_late4 rfl (by rfl) (by decide) (fun K hK => ?_)
                    go_simp
                    refine hK _ _ ?_
                    clear hK K
                    try simp only [Act.put, List.setIfInBounds_toArray, List.set_cons_zero, List.set_cons_succ])
                  refine wpPl_done4 ?_
                  go_wp2_with fail
                  have hfin := AcS.of (S := actF x L dn D) HN4.out.1 HN4.out.2.2 HN2.out.2.2 HRNa.out HN4.out.2.1 HOA4.out.1 HOB4.out.1 HOA4.out.2 HOB4.out.2 rfl
                  go_meet
                  exact ⟨f', oa, ob, c2, l2, s2, rfl, rfl, rfl, rfl, hfin⟩
              · refine wpPl_tl4 rfl (by rfl) (fun K hK => ?_)
                go_simp
                obtain ⟨Wa2, hW2⟩ : ∃ Wa2, Wa1.alloc (.cells #[.slice none 0 0, .int .i64 0] 96) = Wa2 := ⟨_, rfl⟩
                obtain ⟨oa, hoa⟩ : ∃ oa, Wa1.heap.size = oa := ⟨_, rfl⟩
                have hY2 : Ext [] Wa1 Wa2 := by rw [← hW2]; exact (Ext.refl _ _).alloc _
                have hZ2 : Wa2.heap[oa]? = some (.cells #[.slice none 0 0, .int .i64 0] 96 (0, 0)) := by rw [← hW2, ← hoa]; exact World.alloc_heap_new _ _
                have HN2 := Lib.hid (And.intro (HN1.out.1.then hY2) (And.intro hZ2 (show wb.heap.size ≤ oa by have := HN1.out.1.size; omega)))
                have HO2 := Lib.hid (And.intro (hY2.at HN1.out.2.1 (by simp)) HN1.out.2.2)
                try rw [hW2]
                try rw [hoa]
                refine hK _ _ (fun _ => HN2.out.1.wide) ?_
                clear hK K hY2 hZ2 hW2 hoa
                try simp only [Act.put, List.setIfInBounds_toArray, List.set_cons_zero, List.set_cons_succ]
                refine wpPl_tl4 rfl (by rfl) (fun K hK => ?_)
                go_simp
                go_at_call 17
                refine (HCP.out _ HN2.out.1).mono ?_
                rintro e Wa3 ⟨c2, l2, s2, rfl, hY3, hO3, ho1, ho2, ho3⟩
                have HN3 := Lib.hid (And.intro (HN2.out.1.trans hY3) (And.intro (HXS.out _ _ _ _ (HN2.out.1.trans hY3) hO3 (Nat.le_trans HN2.out.1.size ho1) (Nat.le_trans HN2.out.1.size ho2) (Nat.le_trans HN2.out.1.size ho3)) (And.intro (Nat.le_trans HN2.out.1.size ho1) (And.intro (Nat.le_trans HN2.out.1.size ho2) (Nat.le_trans HN2.out.1.size ho3)))))
                have HOA3 := Lib.hid (And.intro (hY3.at HN2.out.2.1 (by simp)) HN2.out.2.2)
                have HOB3 := Lib.hid (And.intro (hY3.at HO2.out.1 (by simp)) HO2.out.2)
                refine hK _ _ (fun _ => HN3.out.1.wide) ?_
                clear hK K hY3 hO3 ho1 ho2 ho3
                try simp only [Act.put, List.setIfInBounds_toArray, List.set_cons_zero, List.set_cons_succ]
                refine wpPl_tl4 rfl (by rfl) (fun K hK => ?_)
                go_simp
                go_at_call 44
                refine (HACT.out _ _ _ _ HN3.out.2.1 HN3.out.1).mono ?_
                rintro e Wa4 ⟨f', v5, u5, rfl, hY4, hS5, hf5⟩
                have hS5r := hS5.rf
                obtain ⟨ao5, cp5, rfl, _⟩ := hS5r
                have hS5d := hS5.rd
                obtain ⟨sg5, sc5, tg5, tc5, wo5, wc5, rfl, _, _, _⟩ := hS5d
                obtain ⟨n5, hn5⟩ : ∃ n5, ((actF x L dn D).2.1 ++ (actF x L dn D).1).length = n5 := ⟨_, rfl⟩
                obtain ⟨m5, hm5⟩ : ∃ m5, (actF x L dn D).2.1.length = m5 := ⟨_, rfl⟩
                rw [hn5, hm5] at hS5 ⊢
                have HN4 := Lib.hid (And.intro (act_ext HN3.out.1 hY4 HN3.out.2.2) (And.intro hS5 (hf5.imp_right (Nat.le_trans HN3.out.1.size))))
                have HOA4 := Lib.hid (And.intro (hY4.at HOA3.out.1 ((FS.fd HN3.out.2.1).noT (by decide) (by decide) (by decide) _ _ HOA3.out.1)) HOA3.out.2)
                have HOB4 := Lib.hid (And.intro (hY4.at HOB3.out.1 ((FS.fd HN3.out.2.1).noT (by decide) (by decide) (by decide) _ _ HOB3.out.1)) HOB3.out.2)
                refine hK _ _ (fun _ => HN4.out.1) ?_
                clear hK K hY4 hS5 hf5 hn5 hm5
                try simp only [Act.put, List.setIfInBounds_toArray, List.set_cons_zero, List.set_cons_succ]
                repeat (first
                  | (refine wpPl_pu4 ?_ rfl (by rfl) (fun w => ?_) ?_
                     rotate_left
                     · (go_simp; first | exact ⟨rfl, rfl⟩ | exact rfl)
                     simp only [Act.put, List.setIfInBounds_toArray, List.set_cons_zero, List.set_cons_succ]))
                have hA9 := HOA4.out.1
                have hB9 := HOB4.out.1
                obtain ⟨z0, z1⟩ := pair' hA9
                obtain ⟨z2, z3, z4⟩ := three hB9
                have f0 := free_of hA9 0
                have f1 := free_of hA9 1
                have f2 := free_of hB9 0
                have f3 := free_of hB9 1
                have f4 := free_of hB9 2
                have hab : oa ≠ ob := fun h => by rw [h, hB9] at hA9; simp at hA9
                have hba : ob ≠ oa := hab.symm
                clear hA9 hB9
                iterate 4 (
                  refine wpPl_late4 rfl (by rfl) (by decide) (fun K hK => ?_)
                  go_simp
                  refine hK _ _ ?_
                  clear hK K
                  try simp only [Act.put, List.setIfInBounds_toArray, List.set_cons_zero, List.set_cons_succ])
                refine wpPl_done4 ?_
                go_wp2_with fail
                have hfin := AcS.of (S := actF x L dn D) HN4.out.1 HN4.out.2.2 HN3.out.2.2 HRNa.out HN4.out.2.1 HOA4.out.1 HOB4.out.1 HOA4.out.2 HOB4.out.2 rfl
                go_meet
                exact ⟨f', oa, ob, c2, l2, s2, rfl, rfl, rfl, rfl, hfin⟩
          case rest =>
            obtain ⟨c', o1, q1, c2, l2, s2, rfl, rfl, rfl, rfl, hcs⟩ := hcut
            obtain ⟨wd, rfl⟩ : ∃ wd, wd = wc := ⟨_, rfl⟩
            have hEd : Ext [] wb wd ∨ True := .inr trivial
            have hEr : Ext [] wr wd := HCb.out.2.1.trans' hcs.ext (fun q hq => .inr (by have := HCb.out.2.2.1; simp at hq; omega))
            have HSD := Lib.hid (HST.out.ext1 hEr)
            have HKD := Lib.hid (HCb.out.2.2.2.1.extC hcs.ext HCb.out.1 (by have := HCb.out.2.2.2.2; omega))
            have HCS := Lib.hid (And.intro hcs (And.intro hEr (show c' ≠ f by have := HFL.out; have := HCb.out.2.2.1; have := HCb.out.2.1.size; have := hcs.hf; omega)))
            clear hEd hEr hcs HRD HACT HCP HXS HGC HRNa
            obtain ⟨wo', wn, wcap, wm, sg, sc, tg, tc', wwo, wwc, hn1, hm1, hbh, hbg, hFS⟩ := HSD.out.fc.open
            obtain ⟨nh, ng⟩ := HSD.out.fc.ne
            have HXS : Hid (∀ (W : World) (c2 l2 s2 : Nat), Ext [] wd W → DevAt W c2 l2 s2 D → wd.heap.size ≤ c2 → wd.heap.size ≤ l2 → wd.heap.size ≤ s2 → FS W w3.heap.size f c2 l2 s2 (.agg #[.slice wo' wn wcap, .int .i64 wm]) (.agg #[.slice (some ⟨sg, 0, none⟩) D.n sc, .slice (some ⟨tg, 0, none⟩) D.n tc', .slice wwo D.W.length wwc]) L dn D) := fun W c2 l2 s2 hE hO h1 h2 h3 => by
              have := HSD.out.ext.size
              exact ⟨⟨HSD.out.fib.ext0 hE, hO, HOK.out.ok, by omega, by omega, by omega⟩, hFS.rf.ext0 hE, hFS.rd.ext0 hE⟩
            have HCP := Lib.hid (fun W (hE : Ext [] wd W) => pm_Copy d lb sb D W (hFS.fd.dev.ext0 hE) HOK.out.ok)
            have HACT := Lib.hid (fun (W : World) (c2 l2 s2 : Nat) (hS : FS W w3.heap.size f c2 l2 s2 (.agg #[.slice wo' wn wcap, .int .i64 wm]) (.agg #[.slice (some ⟨sg, 0, none⟩) D.n sc, .slice (some ⟨tg, 0, none⟩) D.n tc', .slice wwo D.W.length wwc]) L dn D) (hE : Ext [] wd W) => fb_act y f c2 l2 s2 w3.heap.size _ _ L dn D W hS (HOK.out.mono (by omega)) (Nat.le_trans HSD.out.ext.size hE.size) ((HP.out.2.2.2.2.1.ext0 (H0.out.1.trans (HSD.out.ext.trans hE))).up HUP.out) HLN.out.2.2.1)
            have HRNb := Lib.hid HSD.out.ext.size
            have hhf : h ∉ [f] := fun hm => nh (by simp at hm; simp [hm])
            have hgf : g ∉ [f] := fun hm => ng (by simp at hm; simp [hm])
            have HRD : Hid (∀ W, Ext [f] wd W → W.cell? ⟨h, 0, none⟩ = some (.slice wo' wn wcap) ∧ W.cell? ⟨h, 1, none⟩ = some (.int .i64 wm) ∧ W.cell? ⟨g, 0, none⟩ = some (.slice (some ⟨sg, 0, none⟩) D.n sc) ∧ W.cell? ⟨g, 1, none⟩ = some (.slice (some ⟨tg, 0, none⟩) D.n tc') ∧ W.cell? ⟨g, 2, none⟩ = some (.slice wwo D.W.length wwc) ∧ W.cell? ⟨nb + 1, 0, none⟩ = some (.int .i64 y.what) ∧ W.cell? ⟨nb + 1, 1, none⟩ = some (.slice y.bo y.M.length y.cap)) := fun W hE => by
              obtain ⟨q0, q1⟩ := pair' (hE.at hbh hhf)
              obtain ⟨q2, q3, q4⟩ := three (hE.at hbg hgf)
              obtain ⟨q5, q6⟩ := pair' (hE.at (HB3.out _ HSD.out.ext).2.1 (by have := HSD.out.hf; have := H0.out.2.2.1; simp; omega))
              exact ⟨q0, q1, q2, q3, q4, q5, q6⟩
            have HGC := Lib.hid (And.intro hbh (And.intro hhf (And.intro hn1 (And.intro hm1 hFS.rf))))
            clear hn1 hm1 hbh hbg hFS nh ng hhf hgf
            go_upto_region 14 with fail
            go_cut [14, 23, 24, 25] from 97 to 109 (fun s18 s20 s21 s22 wx => ∃ f' o q c2 l2 s2, s18 = .pointer (some ⟨f', 0, none⟩) ∧ s20 = .pointer (some ⟨o, 0, none⟩) ∧ s21 = .pointer (some ⟨q, 0, none⟩) ∧ s22 = .bool true ∧ AcS wd wx w3.heap.size f c2 l2 s2 f' o q (actF y L dn D))
            case first =>
              refine wp_region_p4 [7, 8, 9, 10, 11, 14, 15, 16, 17] (hds4 [0, 1, 3, 4, 5] (.three 2 (.three 6 (pus4 [7, 8, 9, 10, 11] (.two 12 (.tl 13 (tls4 [14, 15, 16, 17] .done)) 13 (.tl 12 (tls4 [14, 15, 16, 17] .done)))) 12 (.two 6 (pus4 [7, 8, 9, 10, 11] (.tl 13 (tls4 [14, 15, 16, 17] .done))) 13 (.tl 6 (pus4 [7, 8, 9, 10, 11] (tls4 [14, 15, 16, 17] .done)))) 13 (.two 6 (pus4 [7, 8, 9, 10, 11] (.tl 12 (tls4 [14, 15, 16, 17] .done))) 12 (.tl 6 (pus4 [7, 8, 9, 10, 11] (tls4 [14, 15, 16, 17] .done))))) 12 (.two 2 (.two 6 (pus4 [7, 8, 9, 10, 11] (.tl 13 (tls4 [14, 15, 16, 17] .done))) 13 (.tl 6 (pus4 [7, 8, 9, 10, 11] (tls4 [14, 15, 16, 17] .done)))) 13 (.tl 2 (.tl 6 (pus4 [7, 8, 9, 10, 11] (tls4 [14, 15, 16, 17] .done))))) 13 (.two 2 (.two 6 (pus4 [7, 8, 9, 10, 11] (.tl 12 (tls4 [14, 15, 16, 17] .done))) 12 (.tl 6 (pus4 [7, 8, 9, 10, 11] (tls4 [14, 15, 16, 17] .done)))) 12 (.tl 2 (.tl 6 (pus4 [7, 8, 9, 10, 11] (tls4 [14, 15, 16, 17] .done))))))) (Ext [f] wd) (by kernel_rfl) (by kernel_rfl) (fun _ d _ _ _ h => by cases d <;> exact h) (Ext.refl _ _).drew ?_
              repeat (first
                | (refine wpPl_hd4 ?_ rfl (by rfl) (fun w hSw => ?_) ?_
                   rotate_left
                   · (obtain ⟨r0, r1, r2, r3, r4, r5, r6⟩ := HRD.out _ hSw; clear hSw; go_simp; first | exact ⟨rfl, rfl⟩ | exact rfl)
                   simp only [Act.put, List.setIfInBounds_toArray, List.set_cons_zero, List.set_cons_succ]))
              obtain ⟨Wb0, hW0⟩ : ∃ W0, wd.drew = W0 := ⟨_, rfl⟩
              have HNb0 : Hid (Ext [] wd Wb0 ∧ True) := ⟨by rw [← hW0]; exact (Ext.refl _ _).drew, trivial⟩
              rw [hW0]
              clear hW0
              refine wpPl_three4 ?_ ?_ ?_
              · refine wpPl_tl4 rfl (by rfl) (fun K hK => ?_)
                go_simp
                go_at_call 17
                refine (HCP.out _ HNb0.out.1).mono ?_
                rintro e Wb1 ⟨c2, l2, s2, rfl, hY1, hO1, ho1, ho2, ho3⟩
                have HN1 := Lib.hid (And.intro (HNb0.out.1.trans hY1) (And.intro (HXS.out _ _ _ _ (HNb0.out.1.trans hY1) hO1 (Nat.le_trans HNb0.out.1.size ho1) (Nat.le_trans HNb0.out.1.size ho2) (Nat.le_trans HNb0.out.1.size ho3)) (And.intro (Nat.le_trans HNb0.out.1.size ho1) (And.intro (Nat.le_trans HNb0.out.1.size ho2) (Nat.le_trans HNb0.out.1.size ho3)))))
                refine hK _ _ (fun _ => HN1.out.1.wide) ?_
                clear hK K hY1 hO1 ho1 ho2 ho3
                try simp only [Act.put, List.setIfInBounds_toArray, List.set_cons_zero, List.set_cons_succ]
                refine wpPl_three4 ?_ ?_ ?_
                · refine wpPl_tl4 rfl (by rfl) (fun K hK => ?_)
                  go_simp
                  go_at_call 44
                  refine (HACT.out _ _ _ _ HN1.out.2.1 HN1.out.1).mono ?_
                  rintro e Wb2 ⟨f', v5, u5, rfl, hY2, hS5, hf5⟩
                  have hS5r := hS5.rf
                  obtain ⟨ao5, cp5, rfl, _⟩ := hS5r
                  have hS5d := hS5.rd
                  obtain ⟨sg5, sc5, tg5, tc5, wo5, wc5, rfl, _, _, _⟩ := hS5d
                  obtain ⟨n5, hn5⟩ : ∃ n5, ((actF y L dn D).2.1 ++ (actF y L dn D).1).length = n5 := ⟨_, rfl⟩
                  obtain ⟨m5, hm5⟩ : ∃ m5, (actF y L dn D).2.1.length = m5 := ⟨_, rfl⟩
                  rw [hn5, hm5] at hS5 ⊢
                  have HN2 := Lib.hid (And.intro (act_ext HN1.out.1 hY2 HN1.out.2.2) (And.intro hS5 (hf5.imp_right (Nat.le_trans HN1.out.1.size))))
                  refine hK _ _ (fun _ => HN2.out.1) ?_
                  clear hK K hY2 hS5 hf5 hn5 hm5
                  try simp only [Act.put, List.setIfInBounds_toArray, List.set_cons_zero, List.set_cons_succ]
                  repeat (first
                    | (refine wpPl_pu4 ?_ rfl (by rfl) (fun w => ?_) ?_
                       rotate_left
                       · (go_simp; first | exact ⟨rfl, rfl⟩ | exact rfl)
                       simp only [Act.put, List.setIfInBounds_toArray, List.set_cons_zero, List.set_cons_succ]))
                  refine wpPl_two4 ?_ ?_
                  · refine wpPl_tl4 rfl (by rfl) (fun K hK => ?_)
                    go_simp
                    obtain ⟨Wb3, hW3⟩ : ∃ Wb3, Wb2.alloc (.cells #[.slice none 0 0, .int .i64 0] 96) = Wb3 := ⟨_, rfl⟩
                    obtain ⟨oa, hoa⟩ : ∃ oa, Wb2.heap.size = oa := ⟨_, rfl⟩
                    have hY3 : Ext [] Wb2 Wb3 := by rw [← hW3]; exact (Ext.refl _ _).alloc _
                    have hZ3 : Wb3.heap[oa]? = some (.cells #[.slice none 0 0, .int .i64 0] 96 (0, 0)) := by rw [← hW3, ← hoa]; exact World.alloc_heap_new _ _
                    have HN3 := Lib.hid (And.intro (HN2.out.1.then hY3) (And.intro hZ3 (show wd.heap.size ≤ oa by have := HN2.out.1.size; omega)))
                    have HF3 := Lib.hid (FS.ext0 HN2.out.2.1 hY3)
                    try rw [hW3]
                    try rw [hoa]
                    refine hK _ _ (fun _ => HN3.out.1) ?_
                    clear hK K hY3 hZ3 hW3 hoa
                    try simp only [Act.put, List.setIfInBounds_toArray, List.set_cons_zero, List.set_cons_succ]
                    refine wpPl_tl4 rfl (by rfl) (fun K hK => ?_)
                    go_simp
                    obtain ⟨Wb4, hW4⟩ : ∃ Wb4, Wb3.alloc (.cells #[.slice none 0 0, .slice none 0 0, .slice none 0 0] 33) = Wb4 := ⟨_, rfl⟩
                    obtain ⟨ob, hob⟩ : ∃ ob, Wb3.heap.size = ob := ⟨_, rfl⟩
                    have hY4 : Ext [] Wb3 Wb4 := by rw [← hW4]; exact (Ext.refl _ _).alloc _
                    have hZ4 : Wb4.heap[ob]? = some (.cells #[.slice none 0 0, .slice none 0 0, .slice none 0 0] 33 (0, 0)) := by rw [← hW4, ← hob]; exact World.alloc_heap_new _ _
                    have HN4 := Lib.hid (And.intro (HN3.out.1.then hY4) (And.intro hZ4 (show wd.heap.size ≤ ob by have := HN3.out.1.size; omega)))
                    have HO4 := Lib.hid (And.intro (hY4.at HN3.out.2.1 (by simp)) HN3.out.2.2)
                    have HF4 := Lib.hid (FS.ext0 HF3.out hY4)
                    try rw [hW4]
                    try rw [hob]
                    refine hK _ _ (fun _ => HN4.out.1) ?_
                    clear hK K hY4 hZ4 hW4 hob
                    try simp only [Act.put, List.setIfInBounds_toArray, List.set_cons_zero, List.set_cons_succ]
                    have hA9 := HO4.out.1
                    have hB9 := HN4.out.2.1
                    obtain ⟨z0, z1⟩ := pair' hA9
                    obtain ⟨z2, z3, z4⟩ := three hB9
                    have f0 := free_of hA9 0
                    have f1 := free_of hA9 1
                    have f2 := free_of hB9 0
                    have f3 := free_of hB9 1
                    have f4 := free_of hB9 2
                    have hab : oa ≠ ob := fun h => by rw [h, hB9] at hA9; simp at hA9
                    have hba : ob ≠ oa := hab.symm
                    clear hA9 hB9
                    iterate 4 (
                      refine wpPl_late4 rfl (by rfl) (by decide) (fun K hK => ?_)
                      go_simp
                      refine hK _ _ ?_
                      clear hK K
                      try simp only [Act.put, List.setIfInBounds_toArray, List.set_cons_zero, List.set_cons_succ])
                    refine wpPl_done4 ?_
                    go_wp2_with fail
                    have hfin := AcS.of (S := actF y L dn D) HN4.out.1 HN2.out.2.2 HN1.out.2.2 HRNb.out HF4.out HO4.out.1 HN4.out.2.1 HO4.out.2 HN4.out.2.2 rfl
                    go_meet
                    exact ⟨f', oa, ob, c2, l2, s2, rfl, rfl, rfl, rfl, hfin⟩
                  · refine wpPl_tl4 rfl (by rfl) (fun K hK => ?_)
                    go_simp
                    obtain ⟨Wb3, hW3⟩ : ∃ Wb3, Wb2.alloc (.cells #[.slice none 0 0, .slice none 0 0, .slice none 0 0] 33) = Wb3 := ⟨_, rfl⟩
                    obtain ⟨ob, hob⟩ : ∃ ob, Wb2.heap.size = ob := ⟨_, rfl⟩
                    have hY3 : Ext [] Wb2 Wb3 := by rw [← hW3]; exact (Ext.refl _ _).alloc _
                    have hZ3 : Wb3.heap[ob]? = some (.cells #[.slice none 0 0, .slice none 0 0, .slice none 0 0] 33 (0, 0)) := by rw [← hW3, ← hob]; exact World.alloc_heap_new _ _
                    have HN3 := Lib.hid (And.intro (HN2.out.1.then hY3) (And.intro hZ3 (show wd.heap.size ≤ ob by have := HN2.out.1.size; omega)))
                    have HF3 := Lib.hid (FS.ext0 HN2.out.2.1 hY3)
                    try rw [hW3]
                    try rw [hob]
                    refine hK _ _ (fun _ => HN3.out.1) ?_
                    clear hK K hY3 hZ3 hW3 hob
                    try simp only [Act.put, List.setIfInBounds_toArray, List.set_cons_zero, List.set_cons_succ]
                    refine wpPl_tl4 rfl (by rfl) (fun K hK => ?_)
                    go_simp
                    obtain ⟨Wb4, hW4⟩ : ∃ Wb4, Wb3.alloc (.cells #[.slice none 0 0, .int .i64 0] 96) = Wb4 := ⟨_, rfl⟩
                    obtain ⟨oa, hoa⟩ : ∃ oa, Wb3.heap.size = oa := ⟨_, rfl⟩
                    have hY4 : Ext [] Wb3 Wb4 := by rw [← hW4]; exact (Ext.refl _ _).alloc _
                    have hZ4 : Wb4.heap[oa]? = some (.cells #[.slice none 0 0, .int .i64 0] 96 (0, 0)) := by rw [← hW4, ← hoa]; exact World.alloc_heap_new _ _
                    have HN4 := Lib.hid (And.intro (HN3.out.1.then hY4) (And.intro hZ4 (show wd.heap.size ≤ oa by have := HN3.out.1.size; omega)))
                    have HO4 := Lib.hid (And.intro (hY4.at HN3.out.2.1 (by simp)) HN3.out.2.2)
                    have HF4 := Lib.hid (FS.ext0 HF3.out hY4)
                    try rw [hW4]
                    try rw [hoa]
                    refine hK _ _ (fun _ => HN4.out.1) ?_
                    clear hK K hY4 hZ4 hW4 hoa
                    try simp only [Act.put, List.setIfInBounds_toArray, List.set_cons_zero, List.set_cons_succ]
                    have hA9 := HN4.out.2.1
                    have hB9 := HO4.out.1
                    obtain ⟨z0, z1⟩ := pair' hA9
                    obtain ⟨z2, z3, z4⟩ := three hB9
                    have f0 := free_of hA9 0
                    have f1 := free_of hA9 1
                    have f2 := free_of hB9 0
                    have f3 := free_of hB9 1
                    have f4 := free_of hB9 2
                    have hab : oa ≠ ob := fun h => by rw [h, hB9] at hA9; simp at hA9
                    have hba : ob ≠ oa := hab.symm
                    clear hA9 hB9
                    iterate 4 (
                      refine wpPl_late4 rfl (by rfl) (by decide) (fun K hK => ?_)
                      go_simp
                      refine hK _ _ ?_
                      clear hK K
                      try simp only [Act.put, List.setIfInBounds_toArray, List.set_cons_zero, List.set_cons_succ])
                    refine wpPl_done4 ?_
                    go_wp2_with fail
                    have hfin := AcS.of (S := actF y L dn D) HN4.out.1 HN2.out.2.2 HN1.out.2.2 HRNb.out HF4.out HN4.out.2.1 HO4.out.1 HN4.out.2.2 HO4.out.2 rfl
                    go_meet
                    exact ⟨f', oa, ob, c2, l2, s2, rfl, rfl, rfl, rfl, hfin⟩
                · refine wpPl_tl4 rfl (by rfl) (fun K hK => ?_)
                  go_simp
                  obtain ⟨Wb2, hW2⟩ : ∃ Wb2, Wb1.alloc (.cells #[.slice none 0 0, .int .i64 0] 96) = Wb2 := ⟨_, rfl⟩
                  obtain ⟨oa, hoa⟩ : ∃ oa, Wb1.heap.size = oa := ⟨_, rfl⟩
                  have hY2 : Ext [] Wb1 Wb2 := by rw [← hW2]; exact (Ext.refl _ _).alloc _
                  have hZ2 : Wb2.heap[oa]? = some (.cells #[.slice none 0 0, .int .i64 0] 96 (0, 0)) := by rw [← hW2, ← hoa]; exact World.alloc_heap_new _ _
                  have HN2 := Lib.hid (And.intro (HN1.out.1.then hY2) (And.intro hZ2 (show wd.heap.size ≤ oa by have := HN1.out.1.size; omega)))
                  have HF2 := Lib.hid (FS.ext0 HN1.out.2.1 hY2)
                  try rw [hW2]
                  try rw [hoa]
                  refine hK _ _ (fun _ => HN2.out.1.wide) ?_
                  clear hK K hY2 hZ2 hW2 hoa
                  try simp only [Act.put, List.setIfInBounds_toArray, List.set_cons_zero, List.set_cons_succ]
                  refine wpPl_two4 ?_ ?_
                  · refine wpPl_tl4 rfl (by rfl) (fun K hK => ?_)
                    go_simp
                    go_at_call 44
                    refine (HACT.out _ _ _ _ HF2.out HN2.out.1).mono ?_
                    rintro e Wb3 ⟨f', v5, u5, rfl, hY3, hS5, hf5⟩
                    have hS5r := hS5.rf
                    obtain ⟨ao5, cp5, rfl, _⟩ := hS5r
                    have hS5d := hS5.rd
                    obtain ⟨sg5, sc5, tg5, tc5, wo5, wc5, rfl, _, _, _⟩ := hS5d
                    obtain ⟨n5, hn5⟩ : ∃ n5, ((actF y L dn D).2.1 ++ (actF y L dn D).1).length = n5 := ⟨_, rfl⟩
                    obtain ⟨m5, hm5⟩ : ∃ m5, (actF y L dn D).2.1.length = m5 := ⟨_, rfl⟩
                    rw [hn5, hm5] at hS5 ⊢
                    have HN3 := Lib.hid (And.intro (act_ext HN2.out.1 hY3 HN1.out.2.2) (And.intro hS5 (hf5.imp_right (Nat.le_trans HN2.out.1.size))))
                    have HOA3 := Lib.hid (And.intro (hY3.at HN2.out.2.1 ((FS.fd HF2.out).noT (by decide) (by decide) (by decide) _ _ HN2.out.2.1)) HN2.out.2.2)
                    refine hK _ _ (fun _ => HN3.out.1) ?_
                    clear hK K hY3 hS5 hf5 hn5 hm5
                    try simp only [Act.put, List.setIfInBounds_toArray, List.set_cons_zero, List.set_cons_succ]
                    repeat (first
                      | (refine wpPl_pu4 ?_ rfl (by rfl) (fun w => ?_) ?_
                         rotate_left
                         · (go_simp; first | exact ⟨rfl, rfl⟩ | exact rfl)
                         simp only [Act.put, List.setIfInBounds_toArray, List.set_cons_zero, List.set_cons_succ]))
                    refine wpPl_tl4 rfl (by rfl) (fun K hK => ?_)
                    go_simp
                    obtain ⟨Wb4, hW4⟩ : ∃ Wb4, Wb3.alloc (.cells #[.slice none 0 0, .slice none 0 0, .slice none 0 0] 33) = Wb4 := ⟨_, rfl⟩
                    obtain ⟨ob, hob⟩ : ∃ ob, Wb3.heap.size = ob := ⟨_, rfl⟩
                    have hY4 : Ext [] Wb3 Wb4 := by rw [← hW4]; exact (Ext.refl _ _).alloc _
                    have hZ4 : Wb4.heap[ob]? = some (.cells #[.slice none 0 0, .slice none 0 0, .slice none 0 0] 33 (0, 0)) := by rw [← hW4, ← hob]; exact World.alloc_heap_new _ _
                    have HN4 := Lib.hid (And.intro (HN3.out.1.then hY4) (And.intro hZ4 (show wd.heap.size ≤ ob by have := HN3.out.1.size; omega)))
                    have HO4 := Lib.hid (And.intro (hY4.at HOA3.out.1 (by simp)) HOA3.out.2)
                    have HF4 := Lib.hid (FS.ext0 HN3.out.2.1 hY4)
                    try rw [hW4]
                    try rw [hob]
                    refine hK _ _ (fun _ => HN4.out.1) ?_
                    clear hK K hY4 hZ4 hW4 hob
                    try simp only [Act.put, List.setIfInBounds_toArray, List.set_cons_zero, List.set_cons_succ]
                    have hA9 := HO4.out.1
                    have hB9 := HN4.out.2.1
                    obtain ⟨z0, z1⟩ := pair' hA9
                    obtain ⟨z2, z3, z4⟩ := three hB9
                    have f0 := free_of hA9 0
                    have f1 := free_of hA9 1
                    have f2 := free_of hB9 0
                    have f3 := free_of hB9 1
                    have f4 := free_of hB9 2
                    have hab : oa ≠ ob := fun h => by rw [h, hB9] at hA9; simp at hA9
                    have hba : ob ≠ oa := hab.symm
                    clear hA9 hB9
                    iterate 4 (
                      refine wpPl_late4 rfl (by rfl) (by decide) (fun K hK => ?_)
                      go_simp
                      refine hK _ _ ?_
                      clear hK K
                      try simp only [Act.put, List.setIfInBounds_toArray, List.set_cons_zero, List.set_cons_succ])
                    refine wpPl_done4 ?_
                    go_wp2_with fail
                    have hfin := AcS.of (S := actF y L dn D) HN4.out.1 HN3.out.2.2 HN1.out.2.2 HRNb.out HF4.out HO4.out.1 HN4.out.2.1 HO4.out.2 HN4.out.2.2 rfl
                    go_meet
                    exact ⟨f', oa, ob, c2, l2, s2, rfl, rfl, rfl, rfl, hfin⟩
                  · refine wpPl_tl4 rfl (by rfl) (fun K hK => ?_)
                    go_simp
                    obtain ⟨Wb3, hW3⟩ : ∃ Wb3, Wb2.alloc (.cells #[.slice none 0 0, .slice none 0 0, .slice none 0 0] 33) = Wb3 := ⟨_, rfl⟩
                    obtain ⟨ob, hob⟩ : ∃ ob, Wb2.heap.size = ob := ⟨_, rfl⟩
                    have hY3 : Ext [] Wb2 Wb3 := by rw [← hW3]; exact (Ext.refl _ _).alloc _
                    have hZ3 : Wb3.heap[ob]? = some (.cells #[.slice none 0 0, .slice none 0 0, .slice none 0 0] 33 (0, 0)) := by rw [← hW3, ← hob]; exact World.alloc_heap_new _ _
                    have HN3 := Lib.hid (And.intro (HN2.out.1.then hY3) (And.intro hZ3 (show wd.heap.size ≤ ob by have := HN2.out.1.size; omega)))
                    have HO3 := Lib.hid (And.intro (hY3.at HN2.out.2.1 (by simp)) HN2.out.2.2)
                    have HF3 := Lib.hid (FS.ext0 HF2.out hY3)
                    try rw [hW3]
                    try rw [hob]
                    refine hK _ _ (fun _ => HN3.out.1.wide) ?_
                    clear hK K hY3 hZ3 hW3 hob
                    try simp only [Act.put, List.setIfInBounds_toArray, List.set_cons_zero, List.set_cons_succ]
                    refine wpPl_tl4 rfl (by rfl) (fun K hK => ?_)
                    go_simp
                    go_at_call 44
                    refine (HACT.out _ _ _ _ HF3.out HN3.out.1).mono ?_
                    rintro e Wb4 ⟨f', v5, u5, rfl, hY4, hS5, hf5⟩
                    have hS5r := hS5.rf
                    obtain ⟨ao5, cp5, rfl, _⟩ := hS5r
                    have hS5d := hS5.rd
                    obtain ⟨sg5, sc5, tg5, tc5, wo5, wc5, rfl, _, _, _⟩ := hS5d
                    obtain ⟨n5, hn5⟩ : ∃ n5, ((actF y L dn D).2.1 ++ (actF y L dn D).1).length = n5 := ⟨_, rfl⟩
                    obtain ⟨m5, hm5⟩ : ∃ m5, (actF y L dn D).2.1.length = m5 := ⟨_, rfl⟩
                    rw [hn5, hm5] at hS5 ⊢
                    have HN4 := Lib.hid (And.intro (act_ext HN3.out.1 hY4 HN1.out.2.2) (And.intro hS5 (hf5.imp_right (Nat.le_trans HN3.out.1.size))))
                    have HOA4 := Lib.hid (And.intro (hY4.at HO3.out.1 ((FS.fd HF3.out).noT (by decide) (by decide) (by decide) _ _ HO3.out.1)) HO3.out.2)
                    have HOB4 := Lib.hid (And.intro (hY4.at HN3.out.2.1 ((FS.fd HF3.out).noT (by decide) (by decide) (by decide) _ _ HN3.out.2.1)) HN3.out.2.2)
                    refine hK _ _ (fun _ => HN4.out.1) ?_
                    clear hK K hY4 hS5 hf5 hn5 hm5
                    try simp only [Act.put, List.setIfInBounds_toArray, List.set_cons_zero, List.set_cons_succ]
                    repeat (first
                      | (refine wpPl_pu4 ?_ rfl (by rfl) (fun w => ?_) ?_
                         rotate_left
                         · (go_simp; first | exact ⟨rfl, rfl⟩ | exact rfl)
                         simp only [Act.put, List.setIfInBounds_toArray, List.set_cons_zero, List.set_cons_succ]))
                    have hA9 := HOA4.out.1
                    have hB9 := HOB4.out.1
                    obtain ⟨z0, z1⟩ := pair' hA9
                    obtain ⟨z2, z3, z4⟩ := three hB9
                    have f0 := free_of hA9 0
                    have f1 := free_of hA9 1
                    have f2 := free_of hB9 0
                    have f3 := free_of hB9 1
                    have f4 := free_of hB9 2
                    have hab : oa ≠ ob := fun h => by rw [h, hB9] at hA9; simp at hA9
                    have hba : ob ≠ oa := hab.symm
                    clear hA9 hB9
                    iterate 4 (
                      refine wpPl_late4 rfl (by rfl) (by decide) (fun K hK => ?_)
                      go_simp
                      refine hK _ _ ?_
                      clear hK K
                      try simp only [Act.put, List.setIfInBounds_toArray, List.set_cons_zero, List.set_cons_succ])
                    refine wpPl_done4 ?_
                    go_wp2_with fail
                    have hfin := AcS.of (S := actF y L dn D) HN4.out.1 HN4.out.2.2 HN1.out.2.2 HRNb.out HN4.out.2.1 HOA4.out.1 HOB4.out.1 HOA4.out.2 HOB4.out.2 rfl
                    go_meet
                    exact ⟨f', oa, ob, c2, l2, s2, rfl, rfl, rfl, rfl, hfin⟩
                · refine wpPl_tl4 rfl (by rfl) (fun K hK => ?_)
                  go_simp
                  obtain ⟨Wb2, hW2⟩ : ∃ Wb2, Wb1.alloc (.cells #[.slice none 0 0, .slice none 0 0, .slice none 0 0] 33) = Wb2 := ⟨_, rfl⟩
                  obtain ⟨ob, hob⟩ : ∃ ob, Wb1.heap.size = ob := ⟨_, rfl⟩
                  have hY2 : Ext [] Wb1 Wb2 := by rw [← hW2]; exact (Ext.refl _ _).alloc _
                  have hZ2 : Wb2.heap[ob]? = some (.cells #[.slice none 0 0, .slice none 0 0, .slice none 0 0] 33 (0, 0)) := by rw [← hW2, ← hob]; exact World.alloc_heap_new _ _
                  have HN2 := Lib.hid (And.intro (HN1.out.1.then hY2) (And.intro hZ2 (show wd.heap.size ≤ ob by have := HN1.out.1.size; omega)))
                  have HF2 := Lib.hid (FS.ext0 HN1.out.2.1 hY2)
                  try rw [hW2]
                  try rw [hob]
                  refine hK _ _ (fun _ => HN2.out.1.wide) ?_
                  clear hK K hY2 hZ2 hW2 hob
                  try simp only [Act.put, List.setIfInBounds_toArray, List.set_cons_zero, List.set_cons_succ]
                  refine wpPl_two4 ?_ ?_
                  · refine wpPl_tl4 rfl (by rfl) (fun K hK => ?_)
                    go_simp
                    go_at_call 44
                    refine (HACT.out _ _ _ _ HF2.out HN2.out.1).mono ?_
                    rintro e Wb3 ⟨f', v5, u5, rfl, hY3, hS5, hf5⟩
                    have hS5r := hS5.rf
                    obtain ⟨ao5, cp5, rfl, _⟩ := hS5r
                    have hS5d := hS5.rd
                    obtain ⟨sg5, sc5, tg5, tc5, wo5, wc5, rfl, _, _, _⟩ := hS5d
                    obtain ⟨n5, hn5⟩ : ∃ n5, ((actF y L dn D).2.1 ++ (actF y L dn D).1).length = n5 := ⟨_, rfl⟩
                    obtain ⟨m5, hm5⟩ : ∃ m5, (actF y L dn D).2.1.length = m5 := ⟨_, rfl⟩
                    rw [hn5, hm5] at hS5 ⊢
                    have HN3 := Lib.hid (And.intro (act_ext HN2.out.1 hY3 HN1.out.2.2) (And.intro hS5 (hf5.imp_right (Nat.le_trans HN2.out.1.size))))
                    have HOB3 := Lib.hid (And.intro (hY3.at HN2.out.2.1 ((FS.fd HF2.out).noT (by decide) (by decide) (by decide) _ _ HN2.out.2.1)) HN2.out.2.2)
                    refine hK _ _ (fun _ => HN3.out.1) ?_
                    clear hK K hY3 hS5 hf5 hn5 hm5
                    try simp only [Act.put, List.setIfInBounds_toArray, List.set_cons_zero, List.set_cons_succ]
                    repeat (first
                      | (refine wpPl_pu4 ?_ rfl (by rfl) (fun w => ?_) ?_
                         rotate_left
                         · (go_simp; first | exact ⟨rfl, rfl⟩ | exact rfl)
                         simp only [Act.put, List.setIfInBounds_toArray, List.set_cons_zero, List.set_cons_succ]))
                    refine wpPl_tl4 rfl (by rfl) (fun K hK => ?_)
                    go_simp
                    obtain ⟨Wb4, hW4⟩ : ∃ Wb4, Wb3.alloc (.cells #[.slice none 0 0, .int .i64 0] 96) = Wb4 := ⟨_, rfl⟩
                    obtain ⟨oa, hoa⟩ : ∃ oa, Wb3.heap.size = oa := ⟨_, rfl⟩
                    have hY4 : Ext [] Wb3 Wb4 := by rw [← hW4]; exact (Ext.refl _ _).alloc _
                    have hZ4 : Wb4.heap[oa]? = some (.cells #[.slice none 0 0, .int .i64 0] 96 (0, 0)) := by rw [← hW4, ← hoa]; exact World.alloc_heap_new _ _
                    have HN4 := Lib.hid (And.intro (HN3.out.1.then hY4) (And.intro hZ4 (show wd.heap.size ≤ oa by have := HN3.out.1.size; omega)))
                    have HO4 := Lib.hid (And.intro (hY4.at HOB3.out.1 (by simp)) HOB3.out.2)
                    have HF4 := Lib.hid (FS.ext0 HN3.out.2.1 hY4)
                    try rw [hW4]
                    try rw [hoa]
                    refine hK _ _ (fun _ => HN4.out.1) ?_
                    clear hK K hY4 hZ4 hW4 hoa
                    try simp only [Act.put, List.setIfInBounds_toArray, List.set_cons_zero, List.set_cons_succ]
                    have hA9 := HN4.out.2.1
                    have hB9 := HO4.out.1
                    obtain ⟨z0, z1⟩ := pair' hA9
                    obtain ⟨z2, z3, z4⟩ := three hB9
                    have f0 := free_of hA9 0
                    have f1 := free_of hA9 1
                    have f2 := free_of hB9 0
                    have f3 := free_of hB9 1
                    have f4 := free_of hB9 2
                    have hab : oa ≠ ob := fun h => by rw [h, hB9] at hA9; simp at hA9
                    have hba : ob ≠ oa := hab.symm
                    clear hA9 hB9
                    iterate 4 (
                      refine wpPl_late4 rfl (by rfl) (by decide) (fun K hK => ?_)
                      go_simp
                      refine hK _ _ ?_
                      clear hK K
                      try simp only [Act.put, List.setIfInBounds_toArray, List.set_cons_zero, List.set_cons_succ])
                    refine wpPl_done4 ?_
                    go_wp2_with fail
                    have hfin := AcS.of (S := actF y L dn D) HN4.out.1 HN3.out.2.2 HN1.out.2.2 HRNb.out HF4.out HN4.out.2.1 HO4.out.1 HN4.out.2.2 HO4.out.2 rfl
                    go_meet
                    exact ⟨f', oa, ob, c2, l2, s2, rfl, rfl, rfl, rfl, hfin⟩
                  · refine wpPl_tl4 rfl (by rfl) (fun K hK => ?_)
                    go_simp
                    obtain ⟨Wb3, hW3⟩ : ∃ Wb3, Wb2.alloc (.cells #[.slice none 0 0, .int .i64 0] 96) = Wb3 := ⟨_, rfl⟩
                    obtain ⟨oa, hoa⟩ : ∃ oa, Wb2.heap.size = oa := ⟨_, rfl⟩
                    have hY3 : Ext [] Wb2 Wb3 := by rw [← hW3]; exact (Ext.refl _ _).alloc _
                    have hZ3 : Wb3.heap[oa]? = some (.cells #[.slice none 0 0, .int .i64 0] 96 (0, 0)) := by rw [← hW3, ← hoa]; exact World.alloc_heap_new _ _
                    have HN3 := Lib.hid (And.intro (HN2.out.1.then hY3) (And.intro hZ3 (show wd.heap.size ≤ oa by have := HN2.out.1.size; omega)))
                    have HO3 := Lib.hid (And.intro (hY3.at HN2.out.2.1 (by simp)) HN2.out.2.2)
                    have HF3 := Lib.hid (FS.ext0 HF2.out hY3)
                    try rw [hW3]
                    try rw [hoa]
                    refine hK _ _ (fun _ => HN3.out.1.wide) ?_
                    clear hK K hY3 hZ3 hW3 hoa
                    try simp only [Act.put, List.setIfInBounds_toArray, List.set_cons_zero, List.set_cons_succ]
                    refine wpPl_tl4 rfl (by rfl) (fun K hK => ?_)
                    go_simp
                    go_at_call 44
                    refine (HACT.out _ _ _ _ HF3.out HN3.out.1).mono ?_
                    rintro e Wb4 ⟨f', v5, u5, rfl, hY4, hS5, hf5⟩
                    have hS5r := hS5.rf
                    obtain ⟨ao5, cp5, rfl, _⟩ := hS5r
                    have hS5d := hS5.rd
                    obtain ⟨sg5, sc5, tg5, tc5, wo5, wc5, rfl, _, _, _⟩ := hS5d
                    obtain ⟨n5, hn5⟩ : ∃ n5, ((actF y L dn D).2.1 ++ (actF y L dn D).1).length = n5 := ⟨_, rfl⟩
                    obtain ⟨m5, hm5⟩ : ∃ m5, (actF y L dn D).2.1.length = m5 := ⟨_, rfl⟩
                    rw [hn5, hm5] at hS5 ⊢
                    have HN4 := Lib.hid (And.intro (act_ext HN3.out.1 hY4 HN1.out.2.2) (And.intro hS5 (hf5.imp_right (Nat.le_trans HN3.out.1.size))))
                    have HOA4 := Lib.hid (And.intro (hY4.at HN3.out.2.1 ((FS.fd HF3.out).noT (by decide) (by decide) (by decide) _ _ HN3.out.2.1)) HN3.out.2.2)
                    have HOB4 := Lib.hid (And.intro (hY4.at HO3.out.1 ((FS.fd HF3.out).noT (by decide) (by decide) (by decide) _ _ HO3.out.1)) HO3.out.2)
                    refine hK _ _ (fun _ => HN4.out.1) ?_
                    clear hK K hY4 hS5 hf5 hn5 hm5
                    try simp only [Act.put, List.setIfInBounds_toArray, List.set_cons_zero, List.set_cons_succ]
                    repeat (first
                      | (refine wpPl_pu4 ?_ rfl (by rfl) (fun w => ?_) ?_
                         rotate_left
                         · (go_simp; first | exact ⟨rfl, rfl⟩ | exact rfl)
                         simp only [Act.put, List.setIfInBounds_toArray, List.set_cons_zero, List.set_cons_succ]))
                    have hA9 := HOA4.out.1
                    have hB9 := HOB4.out.1
                    obtain ⟨z0, z1⟩ := pair' hA9
                    obtain ⟨z2, z3, z4⟩ := three hB9
                    have f0 := free_of hA9 0
                    have f1 := free_of hA9 1
                    have f2 := free_of hB9 0
                    have f3 := free_of hB9 1
                    have f4 := free_of hB9 2
                    have hab : oa ≠ ob := fun h => by rw [h, hB9] at hA9; simp at hA9
                    have hba : ob ≠ oa := hab.symm
                    clear hA9 hB9
                    iterate 4 (
                      refine wpPl_late4 rfl (by rfl) (by decide) (fun K hK => ?_)
                      go_simp
                      refine hK _ _ ?_
                      clear hK K
                      try simp only [Act.put, List.setIfInBounds_toArray, List.set_cons_zero, List.set_cons_succ])
                    refine wpPl_done4 ?_
                    go_wp2_with fail
                    have hfin := AcS.of (S := actF y L dn D) HN4.out.1 HN4.out.2.2 HN1.out.2.2 HRNb.out HN4.out.2.1 HOA4.out.1 HOB4.out.1 HOA4.out.2 HOB4.out.2 rfl
                    go_meet
                    exact ⟨f', oa, ob, c2, l2, s2, rfl, rfl, rfl, rfl, hfin⟩
              · refine wpPl_tl4 rfl (by rfl) (fun K hK => ?_)
                go_simp
                obtain ⟨Wb1, hW1⟩ : ∃ Wb1, Wb0.alloc (.cells #[.slice none 0 0, .int .i64 0] 96) = Wb1 := ⟨_, rfl⟩
                obtain ⟨oa, hoa⟩ : ∃ oa, Wb0.heap.size = oa := ⟨_, rfl⟩
                have hY1 : Ext [] Wb0 Wb1 := by rw [← hW1]; exact (Ext.refl _ _).alloc _
                have hZ1 : Wb1.heap[oa]? = some (.cells #[.slice none 0 0, .int .i64 0] 96 (0, 0)) := by rw [← hW1, ← hoa]; exact World.alloc_heap_new _ _
                have HN1 := Lib.hid (And.intro (HNb0.out.1.then hY1) (And.intro hZ1 (show wd.heap.size ≤ oa by have := HNb0.out.1.size; omega)))
                try rw [hW1]
                try rw [hoa]
                refine hK _ _ (fun _ => HN1.out.1.wide) ?_
                clear hK K hY1 hZ1 hW1 hoa
                try simp only [Act.put, List.setIfInBounds_toArray, List.set_cons_zero, List.set_cons_succ]
                refine wpPl_two4 ?_ ?_
                · refine wpPl_tl4 rfl (by rfl) (fun K hK => ?_)
                  go_simp
                  go_at_call 17
                  refine (HCP.out _ HN1.out.1).mono ?_
                  rintro e Wb2 ⟨c2, l2, s2, rfl, hY2, hO2, ho1, ho2, ho3⟩
                  have HN2 := Lib.hid (And.intro (HN1.out.1.trans hY2) (And.intro (HXS.out _ _ _ _ (HN1.out.1.trans hY2) hO2 (Nat.le_trans HN1.out.1.size ho1) (Nat.le_trans HN1.out.1.size ho2) (Nat.le_trans HN1.out.1.size ho3)) (And.intro (Nat.le_trans HN1.out.1.size ho1) (And.intro (Nat.le_trans HN1.out.1.size ho2) (Nat.le_trans HN1.out.1.size ho3)))))
                  have HOA2 := Lib.hid (And.intro (hY2.at HN1.out.2.1 (by simp)) HN1.out.2.2)
                  refine hK _ _ (fun _ => HN2.out.1.wide) ?_
                  clear hK K hY2 hO2 ho1 ho2 ho3
                  try simp only [Act.put, List.setIfInBounds_toArray, List.set_cons_zero, List.set_cons_succ]
                  refine wpPl_two4 ?_ ?_
                  · refine wpPl_tl4 rfl (by rfl) (fun K hK => ?_)
                    go_simp
                    go_at_call 44
                    refine (HACT.out _ _ _ _ HN2.out.2.1 HN2.out.1).mono ?_
                    rintro e Wb3 ⟨f', v5, u5, rfl, hY3, hS5, hf5⟩
                    have hS5r := hS5.rf
                    obtain ⟨ao5, cp5, rfl, _⟩ := hS5r
                    have hS5d := hS5.rd
                    obtain ⟨sg5, sc5, tg5, tc5, wo5, wc5, rfl, _, _, _⟩ := hS5d
                    obtain ⟨n5, hn5⟩ : ∃ n5, ((actF y L dn D).2.1 ++ (actF y L dn D).1).length = n5 := ⟨_, rfl⟩
                    obtain ⟨m5, hm5⟩ : ∃ m5, (actF y L dn D).2.1.length = m5 := ⟨_, rfl⟩
                    rw [hn5, hm5] at hS5 ⊢
                    have HN3 := Lib.hid (And.intro (act_ext HN2.out.1 hY3 HN2.out.2.2) (And.intro hS5 (hf5.imp_right (Nat.le_trans HN2.out.1.size))))
                    have HOA3 := Lib.hid (And.intro (hY3.at HOA2.out.1 ((FS.fd HN2.out.2.1).noT (by decide) (by decide) (by decide) _ _ HOA2.out.1)) HOA2.out.2)
                    refine hK _ _ (fun _ => HN3.out.1) ?_
                    clear hK K hY3 hS5 hf5 hn5 hm5
                    try simp only [Act.put, List.setIfInBounds_toArray, List.set_cons_zero, List.set_cons_succ]
                    repeat (first
                      | (refine wpPl_pu4 ?_ rfl (by rfl) (fun w => ?_) ?_
                         rotate_left
                         · (go_simp; first | exact ⟨rfl, rfl⟩ | exact rfl)
                         simp only [Act.put, List.setIfInBounds_toArray, List.set_cons_zero, List.set_cons_succ]))
                    refine wpPl_tl4 rfl (by rfl) (fun K hK => ?_)
                    go_simp
                    obtain ⟨Wb4, hW4⟩ : ∃ Wb4, Wb3.alloc (.cells #[.slice none 0 0, .slice none 0 0, .slice none 0 0] 33) = Wb4 := ⟨_, rfl⟩
                    obtain ⟨ob, hob⟩ : ∃ ob, Wb3.heap.size = ob := ⟨_, rfl⟩
                    have hY4 : Ext [] Wb3 Wb4 := by rw [← hW4]; exact (Ext.refl _ _).alloc _
                    have hZ4 : Wb4.heap[ob]? = some (.cells #[.slice none 0 0, .slice none 0 0, .slice none 0 0] 33 (0, 0)) := by rw [← hW4, ← hob]; exact World.alloc_heap_new _ _
                    have HN4 := Lib.hid (And.intro (HN3.out.1.then hY4) (And.intro hZ4 (show wd.heap.size ≤ ob by have := HN3.out.1.size; omega)))
                    have HO4 := Lib.hid (And.intro (hY4.at HOA3.out.1 (by simp)) HOA3.out.2)
                    have HF4 := Lib.hid (FS.ext0 HN3.out.2.1 hY4)
                    try rw [hW4]
                    try rw [hob]
                    refine hK _ _ (fun _ => HN4.out.1) ?_
                    clear hK K hY4 hZ4 hW4 hob
                    try simp only [Act.put, List.setIfInBounds_toArray, List.set_cons_zero, List.set_cons_succ]
                    have hA9 := HO4.out.1
                    have hB9 := HN4.out.2.1
                    obtain ⟨z0, z1⟩ := pair' hA9
                    obtain ⟨z2, z3, z4⟩ := three hB9
                    have f0 := free_of hA9 0
                    have f1 := free_of hA9 1
                    have f2 := free_of hB9 0
                    have f3 := free_of hB9 1
                    have f4 := free_of hB9 2
                    have hab : oa ≠ ob := fun h => by rw [h, hB9] at hA9; simp at hA9
                    have hba : ob ≠ oa := hab.symm
                    clear hA9 hB9
                    iterate 4 (
                      refine wpPl_late4 rfl (by rfl) (by decide) (fun K hK => ?_)
                      go_simp
                      refine hK _ _ ?_
                      clear hK K
                      try simp only [Act.put, List.setIfInBounds_toArray, List.set_cons_zero, List.set_cons_succ])
                    refine wpPl_done4 ?_
                    go_wp2_with fail
                    have hfin := AcS.of (S := actF y L dn D) HN4.out.1 HN3.out.2.2 HN2.out.2.2 HRNb.out HF4.out HO4.out.1 HN4.out.2.1 HO4.out.2 HN4.out.2.2 rfl
                    go_meet
                    exact ⟨f', oa, ob, c2, l2, s2, rfl, rfl, rfl, rfl, hfin⟩
                  · refine wpPl_tl4 rfl (by rfl) (fun K hK => ?_)
                    go_simp
                    obtain ⟨Wb3, hW3⟩ : ∃ Wb3, Wb2.alloc (.cells #[.slice none 0 0, .slice none 0 0, .slice none 0 0] 33) = Wb3 := ⟨_, rfl⟩
                    obtain ⟨ob, hob⟩ : ∃ ob, Wb2.heap.size = ob := ⟨_, rfl⟩
                    have hY3 : Ext [] Wb2 Wb3 := by rw [← hW3]; exact (Ext.refl _ _).alloc _
                    have hZ3 : Wb3.heap[ob]? = some (.cells #[.slice none 0 0, .slice none 0 0, .slice none 0 0] 33 (0, 0)) := by rw [← hW3, ← hob]; exact World.alloc_heap_new _ _
                    have HN3 := Lib.hid (And.intro (HN2.out.1.then hY3) (And.intro hZ3 (show wd.heap.size ≤ ob by have := HN2.out.1.size; omega)))
                    have HO3 := Lib.hid (And.intro (hY3.at HOA2.out.1 (by simp)) HOA2.out.2)
                    have HF3 := Lib.hid (FS.ext0 HN2.out.2.1 hY3)
                    try rw [hW3]
                    try rw [hob]
                    refine hK _ _ (fun _ => HN3.out.1.wide) ?_
                    clear hK K hY3 hZ3 hW3 hob
                    try simp only [Act.put, List.setIfInBounds_toArray, List.set_cons_zero, List.set_cons_succ]
                    refine wpPl_tl4 rfl (by rfl) (fun K hK => ?_)
                    go_simp
                    go_at_call 44
                    refine (HACT.out _ _ _ _ HF3.out HN3.out.1).mono ?_
                    rintro e Wb4 ⟨f', v5, u5, rfl, hY4, hS5, hf5⟩
                    have hS5r := hS5.rf
                    obtain ⟨ao5, cp5, rfl, _⟩ := hS5r
                    have hS5d := hS5.rd
                    obtain ⟨sg5, sc5, tg5, tc5, wo5, wc5, rfl, _, _, _⟩ := hS5d
                    obtain ⟨n5, hn5⟩ : ∃ n5, ((actF y L dn D).2.1 ++ (actF y L dn D).1).length = n5 := ⟨_, rfl⟩
                    obtain ⟨m5, hm5⟩ : ∃ m5, (actF y L dn D).2.1.length = m5 := ⟨_, rfl⟩
                    rw [hn5, hm5] at hS5 ⊢
                    have HN4 := Lib.hid (And.intro (act_ext HN3.out.1 hY4 HN2.out.2.2) (And.intro hS5 (hf5.imp_right (Nat.le_trans HN3.out.1.size))))
                    have HOA4 := Lib.hid (And.intro (hY4.at HO3.out.1 ((FS.fd HF3.out).noT (by decide) (by decide) (by decide) _ _ HO3.out.1)) HO3.out.2)
                    have HOB4 := Lib.hid (And.intro (hY4.at HN3.out.2.1 ((FS.fd HF3.out).noT (by decide) (by decide) (by decide) _ _ HN3.out.2.1)) HN3.out.2.2)
                    refine hK _ _ (fun _ => HN4.out.1) ?_
                    clear hK K hY4 hS5 hf5 hn5 hm5
                    try simp only [Act.put, List.setIfInBounds_toArray, List.set_cons_zero, List.set_cons_succ]
                    repeat (first
                      | (refine wpPl_pu4 ?_ rfl (by rfl) (fun w => ?_) ?_
                         rotate_left
                         · (go_simp; first | exact ⟨rfl, rfl⟩ | exact rfl)
                         simp only [Act.put, List.setIfInBounds_toArray, List.set_cons_zero, List.set_cons_succ]))
                    have hA9 := HOA4.out.1
                    have hB9 := HOB4.out.1
                    obtain ⟨z0, z1⟩ := pair' hA9
                    obtain ⟨z2, z3, z4⟩ := three hB9
                    have f0 := free_of hA9 0
                    have f1 := free_of hA9 1
                    have f2 := free_of hB9 0
                    have f3 := free_of hB9 1
                    have f4 := free_of hB9 2
                    have hab : oa ≠ ob := fun h => by rw [h, hB9] at hA9; simp at hA9
                    have hba : ob ≠ oa := hab.symm
                    clear hA9 hB9
                    iterate 4 (
                      refine wpPl_late4 rfl (by rfl) (by decide) (fun K hK => ?_)
                      go_simp
                      refine hK _ _ ?_
                      clear hK K
                      try simp only [Act.put, List.setIfInBounds_toArray, List.set_cons_zero, List.set_cons_succ])
                    refine wpPl_done4 ?_
                    go_wp2_with fail
                    have hfin := AcS.of (S := actF y L dn D) HN4.out.1 HN4.out.2.2 HN2.out.2.2 HRNb.out HN4.out.2.1 HOA4.out.1 HOB4.out.1 HOA4.out.2 HOB4.out.2 rfl
                    go_meet
                    exact ⟨f', oa, ob, c2, l2, s2, rfl, rfl, rfl, rfl, hfin⟩
                · refine wpPl_tl4 rfl (by rfl) (fun K hK => ?_)
                  go_simp
                  obtain ⟨Wb2, hW2⟩ : ∃ Wb2, Wb1.alloc (.cells #[.slice none 0 0, .slice none 0 0, .slice none 0 0] 33) = Wb2 := ⟨_, rfl⟩
                  obtain ⟨ob, hob⟩ : ∃ ob, Wb1.heap.size = ob := ⟨_, rfl⟩
                  have hY2 : Ext [] Wb1 Wb2 := by rw [← hW2]; exact (Ext.refl _ _).alloc _
                  have hZ2 : Wb2.heap[ob]? = some (.cells #[.slice none 0 0, .slice none 0 0, .slice none 0 0] 33 (0, 0)) := by rw [← hW2, ← hob]; exact World.alloc_heap_new _ _
                  have HN2 := Lib.hid (And.intro (HN1.out.1.then hY2) (And.intro hZ2 (show wd.heap.size ≤ ob by have := HN1.out.1.size; omega)))
                  have HO2 := Lib.hid (And.intro (hY2.at HN1.out.2.1 (by simp)) HN1.out.2.2)
                  try rw [hW2]
                  try rw [hob]
                  refine hK _ _ (fun _ => HN2.out.1.wide) ?_
                  clear hK K hY2 hZ2 hW2 hob
                  try simp only [Act.put, List.setIfInBounds_toArray, List.set_cons_zero, List.set_cons_succ]
                  refine wpPl_tl4 rfl (by rfl) (fun K hK => ?_)
                  go_simp
                  go_at_call 17
                  refine (HCP.out _ HN2.out.1).mono ?_
                  rintro e Wb3 ⟨c2, l2, s2, rfl, hY3, hO3, ho1, ho2, ho3⟩
                  have HN3 := Lib.hid (And.intro (HN2.out.1.trans hY3) (And.intro (HXS.out _ _ _ _ (HN2.out.1.trans hY3) hO3 (Nat.le_trans HN2.out.1.size ho1) (Nat.le_trans HN2.out.1.size ho2) (Nat.le_trans HN2.out.1.size ho3)) (And.intro (Nat.le_trans HN2.out.1.size ho1) (And.intro (Nat.le_trans HN2.out.1.size ho2) (Nat.le_trans HN2.out.1.size ho3)))))
                  have HOA3 := Lib.hid (And.intro (hY3.at HO2.out.1 (by simp)) HO2.out.2)
                  have HOB3 := Lib.hid (And.intro (hY3.at HN2.out.2.1 (by simp)) HN2.out.2.2)
                  refine hK _ _ (fun _ => HN3.out.1.wide) ?_
                  clear hK K hY3 hO3 ho1 ho2 ho3
                  try simp only [Act.put, List.setIfInBounds_toArray, List.set_cons_zero, List.set_cons_succ]
                  refine wpPl_tl4 rfl (by rfl) (fun K hK => ?_)
                  go_simp
                  go_at_call 44
                  refine (HACT.out _ _ _ _ HN3.out.2.1 HN3.out.1).mono ?_
                  rintro e Wb4 ⟨f', v5, u5, rfl, hY4, hS5, hf5⟩
                  have hS5r := hS5.rf
                  obtain ⟨ao5, cp5, rfl, _⟩ := hS5r
                  have hS5d := hS5.rd
                  obtain ⟨sg5, sc5, tg5, tc5, wo5, wc5, rfl, _, _, _⟩ := hS5d
                  obtain ⟨n5, hn5⟩ : ∃ n5, ((actF y L dn D).2.1 ++ (actF y L dn D).1).length = n5 := ⟨_, rfl⟩
                  obtain ⟨m5, hm5⟩ : ∃ m5, (actF y L dn D).2.1.length = m5 := ⟨_, rfl⟩
                  rw [hn5, hm5] at hS5 ⊢
                  have HN4 := Lib.hid (And.intro (act_ext HN3.out.1 hY4 HN3.out.2.2) (And.intro hS5 (hf5.imp_right (Nat.le_trans HN3.out.1.size))))
                  have HOA4 := Lib.hid (And.intro (hY4.at HOA3.out.1 ((FS.fd HN3.out.2.1).noT (by decide) (by decide) (by decide) _ _ HOA3.out.1)) HOA3.out.2)
                  have HOB4 := Lib.hid (And.intro (hY4.at HOB3.out.1 ((FS.fd HN3.out.2.1).noT (by decide) (by decide) (by decide) _ _ HOB3.out.1)) HOB3.out.2)
                  refine hK _ _ (fun _ => HN4.out.1) ?_
                  clear hK K hY4 hS5 hf5 hn5 hm5
                  try simp only [Act.put, List.setIfInBounds_toArray, List.set_cons_zero, List.set_cons_succ]
                  repeat (first
                    | (refine wpPl_pu4 ?_ rfl (by rfl) (fun w => ?_) ?_
                       rotate_left
                       · (go_simp; first | exact ⟨rfl, rfl⟩ | exact rfl)
                       simp only [Act.put, List.setIfInBounds_toArray, List.set_cons_zero, List.set_cons_succ]))
                  have hA9 := HOA4.out.1
                  have hB9 := HOB4.out.1
                  obtain ⟨z0, z1⟩ := pair' hA9
                  obtain ⟨z2, z3, z4⟩ := three hB9
                  have f0 := free_of hA9 0
                  have f1 := free_of hA9 1
                  have f2 := free_of hB9 0
                  have f3 := free_of hB9 1
                  have f4 := free_of hB9 2
                  have hab : oa ≠ ob := fun h => by rw [h, hB9] at hA9; simp at hA9
                  have hba : ob ≠ oa := hab.symm
                  clear hA9 hB9
                  iterate 4 (
                    refine wpPl_late4 rfl (by rfl) (by decide) (fun K hK => ?_)
                    go_simp
                    refine hK _ _ ?_
                    clear hK K
                    try simp only [Act.put, List.setIfInBounds_toArray, List.set_cons_zero, List.set_cons_succ])
                  refine wpPl_done4 ?_
                  go_wp2_with fail
                  have hfin := AcS.of (S := actF y L dn D) HN4.out.1 HN4.out.2.2 HN3.out.2.2 HRNb.out HN4.out.2.1 HOA4.out.1 HOB4.out.1 HOA4.out.2 HOB4.out.2 rfl
                  go_meet
                  exact ⟨f', oa, ob, c2, l2, s2, rfl, rfl, rfl, rfl, hfin⟩
              · refine wpPl_tl4 rfl (by rfl) (fun K hK => ?_)
                go_simp
                obtain ⟨Wb1, hW1⟩ : ∃ Wb1, Wb0.alloc (.cells #[.slice none 0 0, .slice none 0 0, .slice none 0 0] 33) = Wb1 := ⟨_, rfl⟩
                obtain ⟨ob, hob⟩ : ∃ ob, Wb0.heap.size = ob := ⟨_, rfl⟩
                have hY1 : Ext [] Wb0 Wb1 := by rw [← hW1]; exact (Ext.refl _ _).alloc _
                have hZ1 : Wb1.heap[ob]? = some (.cells #[.slice none 0 0, .slice none 0 0, .slice none 0 0] 33 (0, 0)) := by rw [← hW1, ← hob]; exact World.alloc_heap_new _ _
                have HN1 := Lib.hid (And.intro (HNb0.out.1.then hY1) (And.intro hZ1 (show wd.heap.size ≤ ob by have := HNb0.out.1.size; omega)))
                try rw [hW1]
                try rw [hob]
                refine hK _ _ (fun _ => HN1.out.1.wide) ?_
                clear hK K hY1 hZ1 hW1 hob
                try simp only [Act.put, List.setIfInBounds_toArray, List.set_cons_zero, List.set_cons_succ]
                refine wpPl_two4 ?_ ?_
                · refine wpPl_tl4 rfl (by rfl) (fun K hK => ?_)
                  go_simp
                  go_at_call 17
                  refine (HCP.out _ HN1.out.1).mono ?_
                  rintro e Wb2 ⟨c2, l2, s2, rfl, hY2, hO2, ho1, ho2, ho3⟩
                  have HN2 := Lib.hid (And.intro (HN1.out.1.trans hY2) (And.intro (HXS.out _ _ _ _ (HN1.out.1.trans hY2) hO2 (Nat.le_trans HN1.out.1.size ho1) (Nat.le_trans HN1.out.1.size ho2) (Nat.le_trans HN1.out.1.size ho3)) (And.intro (Nat.le_trans HN1.out.1.size ho1) (And.intro (Nat.le_trans HN1.out.1.size ho2) (Nat.le_trans HN1.out.1.size ho3)))))
                  have HOB2 := Lib.hid (And.intro (hY2.at HN1.out.2.1 (by simp)) HN1.out.2.2)
                  refine hK _ _ (fun _ => HN2.out.1.wide) ?_
                  clear hK K hY2 hO2 ho1 ho2 ho3
                  try simp only [Act.put, List.setIfInBounds_toArray, List.set_cons_zero, List.set_cons_succ]
                  refine wpPl_two4 ?_ ?_
                  · refine wpPl_tl4 rfl (by rfl) (fun K hK => ?_)
                    go_simp
                    go_at_call 44
                    refine (HACT.out _ _ _ _ HN2.out.2.1 HN2.out.1).mono ?_
                    rintro e Wb3 ⟨f', v5, u5, rfl, hY3, hS5, hf5⟩
                    have hS5r := hS5.rf
                    obtain ⟨ao5, cp5, rfl, _⟩ := hS5r
                    have hS5d := hS5.rd
                    obtain ⟨sg5, sc5, tg5, tc5, wo5, wc5, rfl, _, _, _⟩ := hS5d
                    obtain ⟨n5, hn5⟩ : ∃ n5, ((actF y L dn D).2.1 ++ (actF y L dn D).1).length = n5 := ⟨_, rfl⟩
                    obtain ⟨m5, hm5⟩ : ∃ m5, (actF y L dn D).2.1.length = m5 := ⟨_, rfl⟩
                    rw [hn5, hm5] at hS5 ⊢
                    have HN3 := Lib.hid (And.intro (act_ext HN2.out.1 hY3 HN2.out.2.2) (And.intro hS5 (hf5.imp_right (Nat.le_trans HN2.out.1.size))))
                    have HOB3 := Lib.hid (And.intro (hY3.at HOB2.out.1 ((FS.fd HN2.out.2.1).noT (by decide) (by decide) (by decide) _ _ HOB2.out.1)) HOB2.out.2)
                    refine hK _ _ (fun _ => HN3.out.1) ?_
                    clear hK K hY3 hS5 hf5 hn5 hm5
                    try simp only [Act.put, List.setIfInBounds_toArray, List.set_cons_zero, List.set_cons_succ]
                    repeat (first
                      | (refine wpPl_pu4 ?_ rfl (by rfl) (fun w => ?_) ?_
                         rotate_left
                         · (go_simp; first | exact ⟨rfl, rfl⟩ | exact rfl)
                         simp only [Act.put, List.setIfInBounds_toArray, List.set_cons_zero, List.set_cons_succ]))
                    refine wpPl_tl4 rfl (by rfl) (fun K hK => ?_)
                    go_simp
                    obtain ⟨Wb4, hW4⟩ : ∃ Wb4, Wb3.alloc (.cells #[.slice none 0 0, .int .i64 0] 96) = Wb4 := ⟨_, rfl⟩
                    obtain ⟨oa, hoa⟩ : ∃ oa, Wb3.heap.size = oa := ⟨_, rfl⟩
                    have hY4 : Ext [] Wb3 Wb4 := by rw [← hW4]; exact (Ext.refl _ _).alloc _
                    have hZ4 : Wb4.heap[oa]? = some (.cells #[.slice none 0 0, .int .i64 0] 96 (0, 0)) := by rw [← hW4, ← hoa]; exact World.alloc_heap_new _ _
                    have HN4 := Lib.hid (And.intro (HN3.out.1.then hY4) (And.intro hZ4 (show wd.heap.size ≤ oa by have := HN3.out.1.size; omega)))
                    have HO4 := Lib.hid (And.intro (hY4.at HOB3.out.1 (by simp)) HOB3.out.2)
                    have HF4 := Lib.hid (FS.ext0 HN3.out.2.1 hY4)
                    try rw [hW4]
                    try rw [hoa]
                    refine hK _ _ (fun _ => HN4.out.1) ?_
                    clear hK K hY4 hZ4 hW4 hoa
                    try simp only [Act.put, List.setIfInBounds_toArray, List.set_cons_zero, List.set_cons_succ]
                    have hA9 := HN4.out.2.1
                    have hB9 := HO4.out.1
                    obtain ⟨z0, z1⟩ := pair' hA9
                    obtain ⟨z2, z3, z4⟩ := three hB9
                    have f0 := free_of hA9 0
                    have f1 := free_of hA9 1
                    have f2 := free_of hB9 0
                    have f3 := free_of hB9 1
                    have f4 := free_of hB9 2
                    have hab : oa ≠ ob := fun h => by rw [h, hB9] at hA9; simp at hA9
                    have hba : ob ≠ oa := hab.symm
                    clear hA9 hB9
                    iterate 4 (
                      refine wpPl_late4 rfl (by rfl) (by decide) (fun K hK => ?_)
                      go_simp
                      refine hK _ _ ?_
                      clear hK K
                      try simp only [Act.put, List.setIfInBounds_toArray, List.set_cons_zero, List.set_cons_succ])
                    refine wpPl_done4 ?_
                    go_wp2_with fail
                    have hfin := AcS.of (S := actF y L dn D) HN4.out.1 HN3.out.2.2 HN2.out.2.2 HRNb.out HF4.out HN4.out.2.1 HO4.out.1 HN4.out.2.2 HO4.out.2 rfl
                    go_meet
                    exact ⟨f', oa, ob, c2, l2, s2, rfl, rfl, rfl, rfl, hfin⟩
                  · refine wpPl_tl4 rfl (by rfl) (fun K hK => ?_)
                    go_simp
                    obtain ⟨Wb3, hW3⟩ : ∃ Wb3, Wb2.alloc (.cells #[.slice none 0 0, .int .i64 0] 96) = Wb3 := ⟨_, rfl⟩
                    obtain ⟨oa, hoa⟩ : ∃ oa, Wb2.heap.size = oa := ⟨_, rfl⟩
                    have hY3 : Ext [] Wb2 Wb3 := by rw [← hW3]; exact (Ext.refl _ _).alloc _
                    have hZ3 : Wb3.heap[oa]? = some (.cells #[.slice none 0 0, .int .i64 0] 96 (0, 0)) := by rw [← hW3, ← hoa]; exact World.alloc_heap_new _ _
                    have HN3 := Lib.hid (And.intro (HN2.out.1.then hY3) (And.intro hZ3 (show wd.heap.size ≤ oa by have := HN2.out.1.size; omega)))
                    have HO3 := Lib.hid (And.intro (hY3.at HOB2.out.1 (by simp)) HOB2.out.2)
                    have HF3 := Lib.hid (FS.ext0 HN2.out.2.1 hY3)
                    try rw [hW3]
                    try rw [hoa]
                    refine hK _ _ (fun _ => HN3.out.1.wide) ?_
                    clear hK K hY3 hZ3 hW3 hoa
                    try simp only [Act.put, List.setIfInBounds_toArray, List.set_cons_zero, List.set_cons_succ]
                    refine wpPl_tl4 rfl (by rfl) (fun K hK => ?_)
                    go_simp
                    go_at_call 44
                    refine (HACT.out _ _ _ _ HF3.out HN3.out.1).mono ?_
                    rintro e Wb4 ⟨f', v5, u5, rfl, hY4, hS5, hf5⟩
                    have hS5r := hS5.rf
                    obtain ⟨ao5, cp5, rfl, _⟩ := hS5r
                    have hS5d := hS5.rd
                    obtain ⟨sg5, sc5, tg5, tc5, wo5, wc5, rfl, _, _, _⟩ := hS5d
                    obtain ⟨n5, hn5⟩ : ∃ n5, ((actF y L dn D).2.1 ++ (actF y L dn D).1).length = n5 := ⟨_, rfl⟩
                    obtain ⟨m5, hm5⟩ : ∃ m5, (actF y L dn D).2.1.length = m5 := ⟨_, rfl⟩
                    rw [hn5, hm5] at hS5 ⊢
                    have HN4 := Lib.hid (And.intro (act_ext HN3.out.1 hY4 HN2.out.2.2) (And.intro hS5 (hf5.imp_right (Nat.le_trans HN3.out.1.size))))
                    have HOA4 := Lib.hid (And.intro (hY4.at HN3.out.2.1 ((FS.fd HF3.out).noT (by decide) (by decide) (by decide) _ _ HN3.out.2.1)) HN3.out.2.2)
                    have HOB4 := Lib.hid (And.intro (hY4.at HO3.out.1 ((FS.fd HF3.out).noT (by decide) (by decide) (by decide) _ _ HO3.out.1)) HO3.out.2)
                    refine hK _ _ (fun _ => HN4.out.1) ?_
                    clear hK K hY4 hS5 hf5 hn5 hm5
                    try simp only [Act.put, List.setIfInBounds_toArray, List.set_cons_zero, List.set_cons_succ]
                    repeat (first
                      | (refine wpPl_pu4 ?_ rfl (by rfl) (fun w => ?_) ?_
                         rotate_left
                         · (go_simp; first | exact ⟨rfl, rfl⟩ | exact rfl)
                         simp only [Act.put, List.setIfInBounds_toArray, List.set_cons_zero, List.set_cons_succ]))
                    have hA9 := HOA4.out.1
                    have hB9 := HOB4.out.1
                    obtain ⟨z0, z1⟩ := pair' hA9
                    obtain ⟨z2, z3, z4⟩ := three hB9
                    have f0 := free_of hA9 0
                    have f1 := free_of hA9 1
                    have f2 := free_of hB9 0
                    have f3 := free_of hB9 1
                    have f4 := free_of hB9 2
                    have hab : oa ≠ ob := fun h => by rw [h, hB9] at hA9; simp at hA9
                    have hba : ob ≠ oa := hab.symm
                    clear hA9 hB9
                    iterate 4 (
                      refine wpPl_late4 rfl (by rfl) (by decide) (fun K hK => ?_)
                      go_simp
                      refine hK _ _ ?_
                      clear hK K
                      try simp only [Act.put, List.setIfInBounds_toArray, List.set_cons_zero, List.set_cons_succ])
                    refine wpPl_done4 ?_
                    go_wp2_with fail
                    have hfin := AcS.of (S := actF y L dn D) HN4.out.1 HN4.out.2.2 HN2.out.2.2 HRNb.out HN4.out.2.1 HOA4.out.1 HOB4.out.1 HOA4.out.2 HOB4.out.2 rfl
                    go_meet
                    exact ⟨f', oa, ob, c2, l2, s2, rfl, rfl, rfl, rfl, hfin⟩
                · refine wpPl_tl4 rfl (by rfl) (fun K hK => ?_)
                  go_simp
                  obtain ⟨Wb2, hW2⟩ : ∃ Wb2, Wb1.alloc (.cells #[.slice none 0 0, .int .i64 0] 96) = Wb2 := ⟨_, rfl⟩
                  obtain ⟨oa, hoa⟩ : ∃ oa, Wb1.heap.size = oa := ⟨_, rfl⟩
                  have hY2 : Ext [] Wb1 Wb2 := by rw [← hW2]; exact (Ext.refl _ _).alloc _
                  have hZ2 : Wb2.heap[oa]? = some (.cells #[.slice none 0 0, .int .i64 0] 96 (0, 0)) := by rw [← hW2, ← hoa]; exact World.alloc_heap_new _ _
                  have HN2 := Lib.hid (And.intro (HN1.out.1.then hY2) (And.intro hZ2 (show wd.heap.size ≤ oa by have := HN1.out.1.size; omega)))
                  have HO2 := Lib.hid (And.intro (hY2.at HN1.out.2.1 (by simp)) HN1.out.2.2)
                  try rw [hW2]
                  try rw [hoa]
                  refine hK _ _ (fun _ => HN2.out.1.wide) ?_
                  clear hK K hY2 hZ2 hW2 hoa
                  try simp only [Act.put, List.setIfInBounds_toArray, List.set_cons_zero, List.set_cons_succ]
                  refine wpPl_tl4 rfl (by rfl) (fun K hK => ?_)
                  go_simp
                  go_at_call 17
                  refine (HCP.out _ HN2.out.1).mono ?_
                  rintro e Wb3 ⟨c2, l2, s2, rfl, hY3, hO3, ho1, ho2, ho3⟩
                  have HN3 := Lib.hid (And.intro (HN2.out.1.trans hY3) (And.intro (HXS.out _ _ _ _ (HN2.out.1.trans hY3) hO3 (Nat.le_trans HN2.out.1.size ho1) (Nat.le_trans HN2.out.1.size ho2) (Nat.le_trans HN2.out.1.size ho3)) (And.intro (Nat.le_trans HN2.out.1.size ho1) (And.intro (Nat.le_trans HN2.out.1.size ho2) (Nat.le_trans HN2.out.1.size ho3)))))
                  have HOA3 := Lib.hid (And.intro (hY3.at HN2.out.2.1 (by simp)) HN2.out.2.2)
                  have HOB3 := Lib.hid (And.intro (hY3.at HO2.out.1 (by simp)) HO2.out.2)
                  refine hK _ _ (fun _ => HN3.out.1.wide) ?_
                  clear hK K hY3 hO3 ho1 ho2 ho3
                  try simp only [Act.put, List.setIfInBounds_toArray, List.set_cons_zero, List.set_cons_succ]
                  refine wpPl_tl4 rfl (by rfl) (fun K hK => ?_)
                  go_simp
                  go_at_call 44
                  refine (HACT.out _ _ _ _ HN3.out.2.1 HN3.out.1).mono ?_
                  rintro e Wb4 ⟨f', v5, u5, rfl, hY4, hS5, hf5⟩
                  have hS5r := hS5.rf
                  obtain ⟨ao5, cp5, rfl, _⟩ := hS5r
                  have hS5d := hS5.rd
                  obtain ⟨sg5, sc5, tg5, tc5, wo5, wc5, rfl, _, _, _⟩ := hS5d
                  obtain ⟨n5, hn5⟩ : ∃ n5, ((actF y L dn D).2.1 ++ (actF y L dn D).1).length = n5 := ⟨_, rfl⟩
                  obtain ⟨m5, hm5⟩ : ∃ m5, (actF y L dn D).2.1.length = m5 := ⟨_, rfl⟩
                  rw [hn5, hm5] at hS5 ⊢
                  have HN4 := Lib.hid (And.intro (act_ext HN3.out.1 hY4 HN3.out.2.2) (And.intro hS5 (hf5.imp_right (Nat.le_trans HN3.out.1.size))))
                  have HOA4 := Lib.hid (And.intro (hY4.at HOA3.out.1 ((FS.fd HN3.out.2.1).noT (by decide) (by decide) (by decide) _ _ HOA3.out.1)) HOA3.out.2)
                  have HOB4 := Lib.hid (And.intro (hY4.at HOB3.out.1 ((FS.fd HN3.out.2.1).noT (by decide) (by decide) (by decide) _ _ HOB3.out.1)) HOB3.out.2)
                  refine hK _ _ (fun _ => HN4.out.1) ?_
                  clear hK K hY4 hS5 hf5 hn5 hm5
                  try simp only [Act.put, List.setIfInBounds_toArray, List.set_cons_zero, List.set_cons_succ]
                  repeat (first
                    | (refine wpPl_pu4 ?_ rfl (by rfl) (fun w => ?_) ?_
                       rotate_left
                       · (go_simp; first | exact ⟨rfl, rfl⟩ | exact rfl)
                       simp only [Act.put, List.setIfInBounds_toArray, List.set_cons_zero, List.set_cons_succ]))
                  have hA9 := HOA4.out.1
                  have hB9 := HOB4.out.1
                  obtain ⟨z0, z1⟩ := pair' hA9
                  obtain ⟨z2, z3, z4⟩ := three hB9
                  have f0 := free_of hA9 0
                  have f1 := free_of hA9 1
                  have f2 := free_of hB9 0
                  have f3 := free_of hB9 1
                  have f4 := free_of hB9 2
                  have hab : oa ≠ ob := fun h => by rw [h, hB9] at hA9; simp at hA9
                  have hba : ob ≠ oa := hab.symm
                  clear hA9 hB9
                  iterate 4 (
                    refine wpPl_late4 rfl (by rfl) (by decide) (fun K hK => ?_)
                    go_simp
                    refine hK _ _ ?_
                    clear hK K
                    try simp only [Act.put, List.setIfInBounds_toArray, List.set_cons_zero, List.set_cons_succ])
                  refine wpPl_done4 ?_
                  go_wp2_with fail
                  have hfin := AcS.of (S := actF y L dn D) HN4.out.1 HN4.out.2.2 HN3.out.2.2 HRNb.out HN4.out.2.1 HOA4.out.1 HOB4.out.1 HOA4.out.2 HOB4.out.2 rfl
                  go_meet
                  exact ⟨f', oa, ob, c2, l2, s2, rfl, rfl, rfl, rfl, hfin⟩
            case rest =>
              obtain ⟨f', o2, q2, c3, l3, s3, rfl, rfl, rfl, rfl, hcs2⟩ := hcut
              obtain ⟨we, rfl⟩ : ∃ we, we = wc := ⟨_, rfl⟩
              have hF1 := HCS.out.1.fc.extC hcs2.ext HSD.out.fib HCS.out.2.2
              have hK2 := HKD.out.extC hcs2.ext HSD.out.fib (by have := HCb.out.2.2.2.2; have := HFL.out; have := HCb.out.2.2.1; omega)
              have hEw : Ext [] w3 we := HSD.out.ext.trans' hcs2.ext (fun q hq => .inr (by have := HSD.out.hf; simp at hq; omega))
              have HE := Lib.hid (And.intro hF1 (And.intro hcs2.fc (And.intro hK2 (And.intro hEw (And.intro (hcs2.ext.at HSD.out.res (by have := HSD.out.hf; simp; omega)) (And.intro (hcs2.ext.at HGC.out.1 HGC.out.2.1) (HGC.out.2.2.2.2.ext hcs2.ext HSD.out.fib.noTc)))))))
              have HNM := Lib.hid (And.intro HGC.out.2.2.1 HGC.out.2.2.2.1)
              clear hF1 hK2 hEw hcs2 HRD HACT HCP HXS HGC HRNb HCS HKD
              obtain ⟨vo1, vn1, vc1, vm1, _, _, _, _, _, _, _, _, e1, _, hS1⟩ := HE.out.1.open
              obtain ⟨vo2, vn2, vc2, vm2, _, _, _, _, _, _, _, _, e2, _, hS2⟩ := HE.out.2.1.open
              have hl1 := actF_len x L dn D HOK.out HLN.out.2.1 (by omega)
              have hl2 := actF_len y L dn D HOK.out HLN.out.2.2.1 (by omega)
              obtain ⟨S1, hS1e⟩ : ∃ S1, actF x L dn D = S1 := ⟨_, rfl⟩
              obtain ⟨S2, hS2e⟩ : ∃ S2, actF y L dn D = S2 := ⟨_, rfl⟩
              rw [hS1e] at hS1 hl1
              rw [hS2e] at hS2 hl2
              obtain ⟨bs, hbs⟩ : ∃ bs, (decide (S1.2.1 = S2.2.1) && decide (S1.1 = S2.1)) = bs := ⟨_, rfl⟩
              have HSM := Lib.hid (rf_fSame w3.heap.size _ _ S1.1 S1.2.1 S2.1 S2.2.1 we hS1.rf hS2.rf hl1 hl2)
              have HI1 := Lib.hid (fun W (hE : Ext [] we W) => fb_is c' w3.heap.size S1.1 S1.2.1 _ W (hS1.fd.fib.ext0 hE) (hS1.rf.ext0 hE) hl1 (Nat.le_trans HE.out.2.2.2.1.size hE.size))
              have HI2 := Lib.hid (fun W (hE : Ext [] we W) => fb_is f' w3.heap.size S2.1 S2.2.1 _ W (hS2.fd.fib.ext0 hE) (hS2.rf.ext0 hE) hl2 (Nat.le_trans HE.out.2.2.2.1.size hE.size))
              have hq1 := app_len hl1
              have hq2 := app_len hl2
              have HQ1 := Lib.hid (fun W (hE : Ext [] we W) => fb_Same c' f' w3.heap.size w3.heap.size S1.1 S1.2.1 S2.1 S2.2.1 W (hS1.fd.fib.ext0 hE) (hS2.fd.fib.ext0 hE) hq1.2 hq1.1 hq2.2 hq2.1)
              have HQ2 := Lib.hid (fun W (hE : Ext [] we W) => fb_Same f' c' w3.heap.size w3.heap.size S2.1 S2.2.1 S1.1 S1.2.1 W (hS2.fd.fib.ext0 hE) (hS1.fd.fib.ext0 hE) hq2.2 hq2.1 hq1.2 hq1.1)
              rw [decide_swap] at HQ2
              rw [hbs] at HSM HQ1 HQ2
              have HCL : Hid (∀ W, Ext [] we W → (W.cell? ⟨o1, 0, none⟩ = some (.slice vo1 vn1 vc1) ∧ W.cell? ⟨o1, 1, none⟩ = some (.int .i64 vm1)) ∧ W.cell? ⟨o2, 0, none⟩ = some (.slice vo2 vn2 vc2) ∧ W.cell? ⟨o2, 1, none⟩ = some (.int .i64 vm2)) := fun W hE => ⟨pair' (hE.at e1 (by simp)), pair' (hE.at e2 (by simp))⟩
              clear e1 e2 hS1 hS2 hl1 hl2 hS1e hS2e hbs hq1 hq2
              obtain ⟨⟨k0, k1⟩, k2, k3⟩ := HCL.out _ (Ext.refl [] we)
              go_wp2_with fail
              refine HSM.out.mono ?_
              rintro e wf ⟨rfl, hEf⟩
              have Hf := Lib.hid hEf
              clear hEf k0 k1 k2 k3
              obtain ⟨⟨k0, k1⟩, k2, k3⟩ := HCL.out _ Hf.out
              go_wp2_with (go_at_call 36; refine (fb_num _ _).mono ?_; rintro e w' ⟨rfl, rfl⟩)
              refine (HI1.out _ Hf.out).mono ?_
              rintro e wg ⟨rfl, hEg⟩
              have Hg := Lib.hid (Hf.out.trans hEg)
              clear hEg k0 k1 k2 k3
              obtain ⟨⟨k0, k1⟩, k2, k3⟩ := HCL.out _ Hg.out
              go_wp2_with (go_at_call 36; refine (fb_num _ _).mono ?_; rintro e w' ⟨rfl, rfl⟩)
              refine (HI2.out _ Hg.out).mono ?_
              rintro e wh ⟨rfl, hEh⟩
              have Hh := Lib.hid (Hg.out.trans hEh)
              clear hEh k0 k1 k2 k3
              have hbb : (bs != bs) = false := by simp
              go_wp2_with (go_at_call 36; refine (fb_num _ _).mono ?_; rintro e w' ⟨rfl, rfl⟩)
              refine (HQ1.out _ Hh.out).mono ?_
              rintro e wi ⟨rfl, hEi⟩
              have Hi := Lib.hid (Hh.out.trans hEi)
              clear hEi
              go_wp2_with (go_at_call 36; refine (fb_num _ _).mono ?_; rintro e w' ⟨rfl, rfl⟩)
              refine (HQ2.out _ Hi.out).mono ?_
              rintro e wj ⟨rfl, hEj⟩
              have Hj := Lib.hid (Hi.out.trans hEj)
              clear hEj
              obtain ⟨w8, hw8⟩ : ∃ w8, wj.alloc (.cells #[.int .i64 0] 3) = w8 := ⟨_, rfl⟩
              obtain ⟨kb, hkb⟩ : ∃ kb, wj.heap.size = kb := ⟨_, rfl⟩
              have hE8 : Ext [] wj w8 := by rw [← hw8]; exact (Ext.refl _ _).alloc _
              have hb8 : w8.heap[kb]? = some (.cells #[.int .i64 0] 3 (0, 0)) := by rw [← hw8, ← hkb]; exact World.alloc_heap_new _ _
              have hX8 := Hj.out.trans hE8
              have H8 := Lib.hid (And.intro hX8 (And.intro hb8 (And.intro (HE.out.2.2.1.ext0 hX8) (And.intro (HE.out.2.2.2.1.trans hX8) (And.intro (hX8.at HE.out.2.2.2.2.1 (by simp)) (And.intro (hX8.at HE.out.2.2.2.2.2.1 (by simp)) (And.intro (HE.out.2.2.2.2.2.2.ext0 hX8) (And.intro (show we.heap.size ≤ kb by have := Hj.out.size; omega) (hX8.at (HB3.out _ HE.out.2.2.2.1).2.2 (by simp))))))))))
              have hsame := setCell_same (o := 0) (v := .int .i64 0) hb8 rfl
              have hk8 := cell_of (j := 0) (v := .int .i64 0) hb8 rfl
              have hf8 := free_of hb8 0
              have heq := fun w => eqSeqT 98 #[.pointer (some ⟨bw, 0, none⟩)] w
              clear hE8 hb8 hX8
              go_wp2
              try rw [hw8]
              try rw [hkb]
              clear hw8 hkb hsame hk8 hf8 heq
              have HKW : Hid (∀ W, Ext [kb] w8 W → DKB bw w3.heap.size (.slice qo dn.length qc) qo dn W ∧ W.heap[h]? = some (.cells #[.slice wo' wn wcap, .int .i64 wm] 96 (0, 0)) ∧ RFib W w3.heap.size (.agg #[.slice wo' wn wcap, .int .i64 wm]) L dn ∧ W.heap[nb + 2]? = some (.cells #[.int .i64 many] 3 (0, 0)) ∧ W.heap[w3.heap.size]? = some (.cells #[.bool false] 4 (0, 0)) ∧ Ext [] w3 W) := by
                intro W hE
                have hno : NoTc w8 w3.heap.size [kb] := fun q hq => by
                  simp at hq
                  subst hq
                  exact .inr ⟨by have := H8.out.2.2.2.2.2.2.2.1; have := HE.out.2.2.2.1.size; omega, fun cur hb => by rw [H8.out.2.1] at hb; simp at hb⟩
                have hlt := H8.out.2.2.2.2.2.2.2.1
                have l1 := HE.out.2.2.1.lt
                have l2 := lt_of_block HE.out.2.2.2.2.2.1
                have l3 := lt_of_block HE.out.2.2.2.2.1
                have l4 := H0.out.2.2.1
                refine ⟨⟨hE.cell H8.out.2.2.1.1 (by simp; omega), H8.out.2.2.1.2.ext hE hno⟩, hE.at H8.out.2.2.2.2.2.1 (by simp; omega), H8.out.2.2.2.2.2.2.1.ext hE hno, hE.at H8.out.2.2.2.2.2.2.2.2 (by simp; omega), hE.at H8.out.2.2.2.2.1 (by simp; omega), H8.out.2.2.2.1.trans' hE (fun q hq => .inr (by simp at hq; omega))⟩
              refine wpIn_wide.1 (wp_range (gf := 98) (lb := #[.pointer (some ⟨bw, 0, none⟩)]) rfl (fun args w => enters_of Try.func98 (by kernel_rfl) rfl args w)
                (done_seq bw w3.heap.size qo qc dn (by have := HLL.out.2; omega)) (fun pre x h => by obtain ⟨k, _, _, rfl⟩ := okC_last h; rfl) [kb]
                (CntGo w8 kb 3 many) (CntEnd w8 kb 3 wm 2 many) ?_ ?_ ?_ ?_ ?_ ?_ ?_ ?_)
              · exact CntGo.steady (Nat.le_refl _)
              · exact CntEnd.steady (Nat.le_refl _)
              · rintro mm pre W ⟨_, hE, _⟩
                exact (HKW.out _ hE).1
              · intro j hj
                simp at hj
                subst hj
                exact lt_of_block H8.out.2.1
              · exact CntGo.start H8.out.2.1
              · rintro l mm pre xx W hl hgo hok
                have HGO := Lib.hid hgo
                obtain ⟨rfl, hE, hnbb, _⟩ := hgo
                obtain ⟨q, hq, hpre, rfl⟩ := okC_last hok
                have hpl : pre.length = q := by rw [hpre, encC_len _ _ (by omega)]
                rw [hpl] at hnbb
                obtain ⟨t, ht⟩ : ∃ t, dn.getD q tch0 = t := ⟨_, rfl⟩
                obtain ⟨_, hbF, hRF, hbM, _, _⟩ := HKW.out _ hE
                obtain ⟨ao9, cp9, hv9, hTA⟩ := hRF
                simp at hv9
                obtain ⟨⟨rfl, hwn, rfl⟩, hwm⟩ := hv9
                have hqA : q < (dn ++ L).length := by rw [List.length_append]; omega
                obtain ⟨b9, off9, rfl, y0, y1, y2⟩ := hTA.cells hqA
                rw [getD_app _ _ hq, ht] at y0 y1 y2
                obtain ⟨k0, k1⟩ := pair' hbF
                have kM := cell_of (j := 0) (v := .int .i64 many) hbM rfl
                have hqm : q < wm := by rw [← HNM.out.2]; exact hq
                have hqn : q < wn := by rw [← HNM.out.1]; exact hqA
                have HE2 := Lib.hid (And.intro hE (And.intro hnbb (And.intro hpl hqm)))
                obtain ⟨hge, hge2, hi0, hi1⟩ := less_facts hqm hqn
                have hne := neTch_same t
                obtain ⟨hw, hw'⟩ := wrap_succ hqm (by have := HLL.out.2; have := HNM.out.2; omega)
                rw [ht]
                obtain ⟨kt, at', wt⟩ := t
                dsimp only at *
                unfold tchA
                dsimp only
                obtain ⟨W1, hW1⟩ : ∃ W1, W.alloc (.cells #[.int .i64 kt, .int .i64 at', .int .u64 wt] 82) = W1 := ⟨_, rfl⟩
                have hEW1 : Ext [] W W1 := by rw [← hW1]; exact (Ext.refl _ _).alloc _
                have hbt : W1.heap[W.heap.size]? = some (.cells #[.int .i64 kt, .int .i64 at', .int .u64 wt] 82 (0, 0)) := by rw [← hW1]; exact World.alloc_heap_new _ _
                have k0 := hEW1.cell k0 (by simp)
                have k1 := hEW1.cell k1 (by simp)
                have kM := hEW1.cell kM (by simp)
                have y0 := hEW1.cell y0 (by simp)
                have y1 := hEW1.cell y1 (by simp)
                have y2 := hEW1.cell y2 (by simp)
                have hnb1 := hEW1.at HE2.out.2.1 (by simp)
                have HW1 := Lib.hid hEW1
                have hne2 : ¬ (nb + 2 = kb) := by have := H8.out.2.2.2.2.2.2.2.1; have := HE.out.2.2.2.1.size; have := H0.out.2.2.1; omega
                have hne3 : ¬ (nb + 1 + 1 = kb) := hne2
                clear hE hnbb hok hpre hTA hbF ht hq hqA hpl hqm hqn hEW1 hbM hwn hwm
                intro K hK
                gi_wp2
                try rw [hW1]
                clear hW1
                refine hK _ _ HW1.out ?_
                intro W' hC
                clear hK K
                have bn := hC.block _ _ hnb1 (.inr rfl)
                have r0 := (Steady.cell (N := w8.heap.size)) W1 W' k0 hC
                have r1 := (Steady.cell (N := w8.heap.size)) W1 W' k1 hC
                have rM := (Steady.cell (N := w8.heap.size)) W1 W' kM hC
                have d0 := (Steady.cell (N := w8.heap.size)) W1 W' y0 hC
                have d1 := (Steady.cell (N := w8.heap.size)) W1 W' y1 hC
                have d2 := (Steady.cell (N := w8.heap.size)) W1 W' y2 hC
                obtain ⟨e0, e1, e2⟩ := three' (hC.block _ _ hbt (.inr rfl))
                have k6 := cell_of (j := 0) (v := .int .i64 q) bn rfl
                have f6 := free_of bn 0
                have HG' := Lib.hid (CntGo.steady (Nat.le_refl _) _ _ _ _ (CntGo.steady (Nat.le_refl _) _ _ _ _ HGO.out (HW1.out.calm _)) hC)
                clear bn hC k0 k1 kM y0 y1 y2 hnb1 hbt hl
                gi_wp2
                refine wpIn_region_round_quiet _ rfl (by kernel_rfl) (by kernel_rfl) (by kernel_rfl) ?_
                repeat (gi_big_quiet_step (fail))
                refine wpQuietIn_nil ?_
                intro _ hw''
                obtain ⟨nq, hw9⟩ := hw''
                subst hw9
                have HG9 : Hid (CntGo w8 kb 3 many [kb] pre (W'.drewN nq)) := ⟨HG'.out.1, HG'.out.2.1.drewN nq, HG'.out.2.2.1, HG'.out.2.2.2⟩
                by_cases hend : many ≤ (q : Int) + 1
                · gi_wp2
                  exact ⟨((Ext.refl _ W').drewN nq).setCell (.inl (by simp)) _, CntGo.stop HG9.out HE2.out.2.2.1 hend HE2.out.2.2.2⟩
                · gi_wp2
                  exact ⟨((Ext.refl _ W').drewN nq).setCell (.inl (by simp)) _, CntGo.step HG9.out HE2.out.2.2.1 (by omega)⟩
              all_goals
                first
                  | (rintro Dm mm xs W hD hx hgo hdD
                     have HV := Lib.hid (hgo.done (m := wm) (by rw [show xs = encC dn dn.length from hx, encC_len _ _ (Nat.le_refl _), HNM.out.2]))
                     clear hx hgo)
                  | (rintro Dm cc W hD hce hdD
                     obtain ⟨rfl, hcd⟩ := hce.done
                     have HV := Lib.hid hcd
                     clear hce hcd
                     refine wpIn_exit ?_)
                obtain ⟨v, hE, hnbb, hv⟩ := HV.out
                obtain ⟨_, hbF, _, hbM, hres, hEw⟩ := HKW.out _ hE
                have k6 := cell_of (j := 0) (v := .int .i64 v) hnbb rfl
                obtain ⟨k0, k5⟩ := pair' hbF
                have k7 := cell_of (j := 0) (v := .int .i64 many) hbM rfl
                have hvb : ((v : Int) == min (wm : Int) (max 1 many)) = true := by simpa using hv
                rw [H0.out.2.2.1] at hres
                have HZ := Lib.hid (And.intro hres (And.intro (H0.out.1.trans hEw) (And.intro hdD (show nb + 3 < Dm by have := H8.out.2.2.2.1.size; have := lt_of_block H8.out.2.2.2.2.1; have := H0.out.2.2.1; omega))))
                clear hE hnbb hv hres hEw hdD hD HV hbF hbM
                go_wp2_with fail
                refine (HW.out _).mono ?_
                rintro e w18 ⟨rfl, hE18⟩
                have hb18 := hE18.at HZ.out.1 (by simp)
                have k18 := cell_of (j := 0) (v := .bool false) hb18 rfl
                have f18 := free_of hb18 0
                have H18 := Lib.hid (And.intro (HZ.out.2.1.trans hE18) (And.intro hb18 (hE18.at HZ.out.2.2.1 (by simp))))
                clear hE18 hb18
                go_wp2
                show LeavesInM _ _ _ _ _ _ _ _ _
                refine fin.out [Dm] w18 (.bool false) (fun D1 hD1 => by rw [List.mem_singleton.1 hD1]; exact ⟨H18.out.2.2, HZ.out.2.2.2⟩) (by simp) H18.out.2.1 H18.out.1 _ ?_
                rfl
end Go.Proofs.Ytfojmjkcjdehaaa
namespace Go.Proofs.Ytfojmjkcjdehaaa.lawFibreCopies
open Go.ChangeShapes Go.WideShapes Go.ChangeAt Go.RowKit Go.Deep
open Go.ChangeMaps (open_string shut_string)

theorem own : ownKnob Try.prog.godebug = none := by kernel_rfl
theorem laidOut : laidOutB Try.prog = true := by kernel_rfl

set_option maxHeartbeats 1000000 in
set_option maxRecDepth 100000 in
theorem lifted (os : Os) (started : os.Started) (H : Type) (enc : TypeId × Value → H) :
    ReturnsInHanded {} Try.checked os 10 .any (Rows.fibreCopiesSpec.pre6 enc Try.prog Try.f10 Rows.fibreCopiesRow.domain false) (Rows.fibreCopiesSpec.post enc Try.prog Try.f10 false true false false) := by
  refine returnsInHanded_of_change_sized (C := Try.checked) own started (by kernel_rfl) Try.func10
    (ChangeSpec.witness6 (enc := enc) (C := Try.checked) false ⟨#[], #[.slice none 0 0, .slice none 0 0, .agg #[.int .i64 0, .slice none 0 0], .agg #[.int .i64 0, .slice none 0 0], .int .i64 0], []⟩ 8 (by kernel_rfl) (by kernel_rfl) (by kernel_rfl) (by kernel_rfl)) ?_
  intro W base args ds gs before hval0 hW hcnd hsz0 _
  have hsz : (DataW.weightsEach Try.prog (Try.f10.params.toList ++ Rows.fibreCopiesSpec.plain.varTypes Try.prog) (ds ++ gs)).all (· ≤ reachBytes) = true := hsz0
  have hval : ∀ (j : Nat) t v, Try.f10.params[j]? = some t → args[j]? = some v → Value.okWide Try.prog W .any base t v := hval0
  have hW' := hW
  obtain ⟨p, q, hA0, hV, rfl, hfz, hnd⟩ := hW
  have hA : DataW.TrodAll enc Try.prog W 0 (fun _ => true) true Try.f10.params.toList args.toList ds p := hA0
  rw [Try.params10] at hA hval hsz
  obtain ⟨v0, vs0, d0, ds0, p0, q0, hargs, rfl, rfl, h0, r0⟩ := trodAll_cons hA
  obtain ⟨v1, vs1, d1, ds1, p1, q1, rfl, rfl, rfl, h1, r1⟩ := trodAll_cons r0
  obtain ⟨v2, vs2, d2, ds2, p2, q2, rfl, rfl, rfl, h2, r2⟩ := trodAll_cons r1
  obtain ⟨v3, vs3, d3, ds3, p3, q3, rfl, rfl, rfl, h3, r3⟩ := trodAll_cons r2
  obtain ⟨v4, vs4, d4, ds4, p4, q4, rfl, rfl, rfl, h4, r4⟩ := trodAll_cons r3
  obtain ⟨rfl, rfl, rfl⟩ := trodAll_nil r4
  obtain rfl : args = #[v0, v1, v2, v3, v4] := by cases args; simp_all
  obtain ⟨rfl, rfl⟩ := trodVars_none hV
  obtain ⟨aa0, ll0, cc0, rfl⟩ := okWide_slice Try.underlying75 (hval 0 75 v0 rfl rfl)
  have k0 := h0
  have lt0 : ∀ x ∈ p0, x.block < W.heap.size := by obtain ⟨m, hm⟩ := k0; exact DataW.trod_lt m _ _ _ hm
  obtain ⟨fuel0, hf0⟩ := h0
  obtain ⟨a0, cap0, L0, hcs0, w0, l0, u0⟩ := tchs_open Try.underlying75 Try.underlying82 (by kernel_rfl) rfl rfl rfl (by kernel_rfl) (by kernel_rfl) (by kernel_rfl) Try.underlying80 Try.underlying3 Try.underlying23 hf0
  simp [Value.cells] at hcs0
  obtain ⟨rfl, rfl, rfl⟩ := hcs0
  have s0 := slice_reach Try.underlying75 k0 hsz (j := 0) rfl rfl
  rw [show Try.prog.bytesOf 82 = 24 from by kernel_rfl] at s0
  obtain ⟨aa1, ll1, cc1, rfl⟩ := okWide_slice Try.underlying90 (hval 1 90 v1 rfl rfl)
  have k1 := h1
  have lt1 : ∀ x ∈ p1, x.block < W.heap.size := by obtain ⟨m, hm⟩ := k1; exact DataW.trod_lt m _ _ _ hm
  obtain ⟨fuel1, hf1⟩ := h1
  obtain ⟨a1, len1, cap1, A1, hcs1, w1, l1, u1⟩ := facts_open Try.underlying90 Try.underlying92 (by kernel_rfl) rfl rfl (by kernel_rfl) (by kernel_rfl) Try.underlying3 Try.underlying75 Try.underlying82 (by kernel_rfl) rfl rfl rfl (by kernel_rfl) (by kernel_rfl) (by kernel_rfl) Try.underlying80 Try.underlying3 Try.underlying23 hf1
  simp [Value.cells] at hcs1
  obtain ⟨rfl, rfl, rfl⟩ := hcs1
  have s1 := slice_reach Try.underlying90 k1 hsz (j := 1) rfl rfl
  rw [show Try.prog.bytesOf 92 = 32 from by kernel_rfl] at s1
  have k2 := h2
  have lt2 : ∀ x ∈ p2, x.block < W.heap.size := by obtain ⟨m, hm⟩ := k2; exact DataW.trod_lt m _ _ _ hm
  obtain ⟨A2, rfl, w2, u2⟩ := fact_val_open Try.underlying92 (by kernel_rfl) rfl rfl (by kernel_rfl) (by kernel_rfl) Try.underlying3 Try.underlying75 Try.underlying82 (by kernel_rfl) rfl rfl rfl (by kernel_rfl) (by kernel_rfl) (by kernel_rfl) Try.underlying80 Try.underlying3 Try.underlying23 (hval 2 92 v2 rfl rfl) h2
  have k3 := h3
  have lt3 : ∀ x ∈ p3, x.block < W.heap.size := by obtain ⟨m, hm⟩ := k3; exact DataW.trod_lt m _ _ _ hm
  obtain ⟨A3, rfl, w3, u3⟩ := fact_val_open Try.underlying92 (by kernel_rfl) rfl rfl (by kernel_rfl) (by kernel_rfl) Try.underlying3 Try.underlying75 Try.underlying82 (by kernel_rfl) rfl rfl rfl (by kernel_rfl) (by kernel_rfl) (by kernel_rfl) Try.underlying80 Try.underlying3 Try.underlying23 (hval 3 92 v3 rfl rfl) h3
  obtain ⟨a4, rfl, rfl, rfl, w4⟩ := open_int Try.underlying3 (hval 4 3 v4 rfl rfl) h4
  clear hA0 hval0
  refine (fb_copies aa0 cc0 L0 aa1 ll1 cc1 A1 A2 A3 a4 W w0 w1 (by unfold reachBytes at s1; omega) l0 u1 w2 w3 u2 u3).mono fun e W' ⟨he, hE⟩ => ?_
  subst he
  have bel := hE.below
  exact ⟨_, rfl, _, _, _, [], _, [], hW', trodAll_mk1 (shut_bool Try.underlying4 _), (trodAll_cons_mk (Below.trod laidOut (by kernel_rfl) (of_decide_eq_true (by kernel_rfl)) k0 bel lt0) (trodAll_cons_mk (Below.trod laidOut (by kernel_rfl) (of_decide_eq_true (by kernel_rfl)) k1 bel lt1) (trodAll_cons_mk (Below.trod laidOut (by kernel_rfl) (of_decide_eq_true (by kernel_rfl)) k2 bel lt2) (trodAll_cons_mk (Below.trod laidOut (by kernel_rfl) (of_decide_eq_true (by kernel_rfl)) k3 bel lt3) (trodAll_cons_mk (shut_int Try.underlying3 w4) trodAll_mk0))))), rfl, bel.frame _, fun h => by cases h⟩

theorem proved : Rows.FibreCopiesSaid :=
  OpenClaim.holds_of_wide 10 Try.f10 rfl rfl rfl rfl rfl rfl rfl ⟨rfl, rfl, rfl, rfl, rfl⟩ rfl rfl rfl rfl rfl (by kernel_rfl) Try.func10 (by kernel_rfl)
    (of_decide_eq_true (by kernel_rfl)) (by unfold Func.isWrapper; first | (rw [if_pos (by decide +kernel)]; kernel_rfl) | (rw [if_neg (by decide +kernel)]; exact ⟨rfl, rfl⟩))
    (fun os started H enc _ => lifted os started H enc)
#print axioms proved
end Go.Proofs.Ytfojmjkcjdehaaa.lawFibreCopies
