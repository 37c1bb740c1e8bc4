/- EpochCopies: two documents' clocks compared; what holds behind the two calls (printed by wip/mkEpX.py). -/
import Derived.Test.YtgpoplnfhlfogaaEpW
namespace Go.Proofs.Ytgpoplnfhlfogaa
open Go Go.RowKit Go.Shelf
attribute [local go_sem] Oper.semAt_some
attribute [local go_sem ↓] wp_loadC wp_storeC exec_loadC
attribute [local go_sem] rowB_ptr rowCs_agg aggOk_ref rowOk_drew rowVal_drew rowOk_drewN rowVal_drewN

def arrJ (n : Nat) (F : Nat → Int) : Array Value := ((List.range n).map fun i => Value.int .i64 (F i)).toArray
theorem arrJ_get (n : Nat) (F : Nat → Int) (i : Nat) (h : i < n) : (arrJ n F)[i]? = some (.int .i64 (F i)) := by simp [arrJ, h]
theorem run_equalIn_arrJ {P : Program} (w : World) (d t n e : Nat) (ht : P.underlying t = some (.array n e)) (he : P.underlying e = some (.int .i64)) (hs : (sizeOf e).run P w = .ok 1 w) (F G : Nat → Int) :
    (Op.equalIn (d + 2) t (.agg (arrJ n F)) (.agg (arrJ n G))).run P w = .ok ((List.range n).all fun i => F i == G i) w := by
  rw [Op.equalIn]
  simp only [Sem.run_bind, run_underlying ht, Result.andThen_ok, hs]
  rw [Std.Legacy.Range.forIn_eq_forIn_range']
  simp only [Std.Legacy.Range.size, Nat.sub_zero, Nat.add_sub_cancel, Nat.div_one, Nat.mul_one]
  have hsub : ∀ i ∈ List.range' 0 n 1, i < n := fun i hi => by simp [List.mem_range'] at hi; omega
  rw [List.range_eq_range']
  generalize List.range' 0 n 1 = l at hsub
  induction l with
  | nil => simp
  | cons i l ih =>
    have hi := hsub i (by simp)
    simp only [List.forIn_cons, Sem.run_bind, run_partInt w e .i64 he _ i _ (arrJ_get n F i hi), run_partInt w e .i64 he _ i _ (arrJ_get n G i hi), Result.andThen_ok, run_equalIn_int w d e .i64 .i64 _ _ he]
    cases hb : (F i == G i) with
    | true =>
      simp only [Bool.not_true, Bool.false_eq_true, if_false, Sem.run_pure, Result.andThen_ok, List.all_cons, hb, Bool.true_and]
      exact ih (fun j hj => hsub j (List.mem_cons_of_mem _ hj))
    | false => simp [hb]
def eqR (n1 n2 : Int) (F1 F2 : Nat → Int) : Bool := n1 == n2 && (List.range 8).all fun i => F1 i == F2 i
theorem eqC (n1 n2 : Int) (F1 F2 : Nat → Int) (w : World) : (binOp .eql 92 (.agg (refC n1 F1)) (.agg (refC n2 F2))).run Try.prog w = .ok (.bool (eqR n1 n2 F1 F2)) w := by
  have hS : Try.prog.underlying 92 = some (.struct (Try.prog.fieldsOf 92)) := by kernel_rfl
  have hp : Try.prog.stoodInHeld 92 = false := by kernel_rfl
  have p0 : ∀ n F, (part 3 (refC n F) 0).run Try.prog w = .ok (.int .i64 n) w := fun n F => by kernel_rfl
  have p1 : ∀ n F, (part 90 (refC n F) 1).run Try.prog w = .ok (.agg (arrJ 8 F)) w := fun n F => by kernel_rfl
  have e0 : (Op.equalIn 9999 3 (.int .i64 n1) (.int .i64 n2)).run Try.prog w = .ok (n1 == n2) w := run_equalIn_int w 9998 3 .i64 .i64 n1 n2 Try.underlying3
  have e1 : (Op.equalIn 9999 90 (.agg (arrJ 8 F1)) (.agg (arrJ 8 F2))).run Try.prog w = .ok ((List.range 8).all fun i => F1 i == F2 i) w := run_equalIn_arrJ w 9997 90 8 3 Try.underlying90 Try.underlying3 (by kernel_rfl) F1 F2
  unfold eqR
  rw [run_eql_struct, show (10000 : Nat) = 9999 + 1 from rfl, run_equalIn_agg w 9999 92 _ _ hS hp]
  simp only [Program.fieldsOf, Try.underlying92]
  generalize ((List.range 8).all fun i => F1 i == F2 i) = q at *
  generalize hB : (n1 == n2) = r at *
  cases r <;> cases q <;> simp [Op.eqFields, p0, p1, e0, e1, Sem.run_bind]
theorem egC : Try.prog.eqGuardType Try.prog.depth 92 = false := by kernel_rfl
theorem same_eq {n1 n2 : Int} {l1 l2 : Ents} (h1 : COk n1 l1) (h2 : COk n2 l2) : sameC n1 n2 l1 l2 = eqR n1 n2 (pinN l1) (pinN l2) := by
  unfold sameC eqR
  congr 1
  rw [Bool.eq_iff_iff, sameE_iff h1 h2, List.all_eq_true]
  simp
theorem eqR_comm (n1 n2 : Int) (F1 F2 : Nat → Int) : eqR n1 n2 F1 F2 = eqR n2 n1 F2 F1 := by
  unfold eqR
  rw [Bool.eq_iff_iff]
  simp only [Bool.and_eq_true, beq_iff_eq, List.all_eq_true]
  exact ⟨fun h => ⟨h.1.symm, fun i hi => (h.2 i hi).symm⟩, fun h => ⟨h.1.symm, fun i hi => (h.2 i hi).symm⟩⟩
/-- behind a call by both, stored where the document's clock lies -/
theorem CSt.act' {w wr wx : World} {c m g j c' m' : Nat} {now n' : Int} {l l' : Ents} (h : CSt w wr c m g now l j) (hE : Ext [c, m] wr wx) (hc : Clk wx c' m' n' l') (hnew : (c' = c ∧ m' = m) ∨ (wr.heap.size ≤ c' ∧ wr.heap.size ≤ m')) (hok : COk n' l') (hn : n' ≤ now + 1) :
    CSt w (wx.setRow g (refC n' (pinN l'))) c' m' g n' l' (j + 1) := by
  obtain ⟨h1, h2, h3, h4⟩ := h.cg
  have hgl := lt_of_block h.want
  have hrl := lt_of_block h.res
  have hlo := h.lo
  have hlow := h.low
  have hE2 : Ext [g] wx (wx.setRow g (refC n' (pinN l'))) := ext_setRow (Ext.refl _ _) (.inl (by simp)) _
  have hg := hE.at h.want (by simp; omega)
  have hcg : c' ≠ g ∧ m' ≠ g := by omega
  exact ⟨hc.ext hE2 (by simp; omega) (by simp; omega), hok, setRow_ref hg, hE2.at (hE.at h.res (by simp; omega)) (by simp; omega), (h.ext.trans' hE (fun q hq => .inr (by simp at hq; omega))).trans' hE2 (fun q hq => .inr (by simp at hq; omega)), by omega, by omega⟩
/-- behind two calls, on a copy and on the clock -/
structure DSt (w3 W : World) (c2 m2 c3 m3 b14 b16 g B bm : Nat) (now n2 n3 : Int) (l l2 l3 : Ents) : Prop where
  k2 : Clk W c2 m2 n2 l2
  k3 : Clk W c3 m3 n3 l3
  r14 : W.heap[b14]? = some (.cells (refC n2 (pinN l2)) 92 (0, 0))
  r16 : W.heap[b16]? = some (.cells (refC n3 (pinN l3)) 92 (0, 0))
  want : W.heap[g]? = some (.cells (refC now (pinN l)) 92 (0, 0))
  seq : PKB B bm l W
  ext : Ext [] w3 W
  res : W.heap[w3.heap.size]? = some (.cells #[.bool false] 4 (0, 0))
theorem DSt.ext1 {w3 W W' : World} {c2 m2 c3 m3 b14 b16 g B bm : Nat} {now n2 n3 : Int} {l l2 l3 : Ents} (h : DSt w3 W c2 m2 c3 m3 b14 b16 g B bm now n2 n3 l l2 l3) (hE : Ext [] W W') : DSt w3 W' c2 m2 c3 m3 b14 b16 g B bm now n2 n3 l l2 l3 :=
  ⟨h.k2.ext hE (by simp) (by simp), h.k3.ext hE (by simp) (by simp), hE.at h.r14 (by simp), hE.at h.r16 (by simp), hE.at h.want (by simp), ⟨hE.cell h.seq.1 (by simp), h.seq.2.ext hE (by simp)⟩, h.ext.trans hE, hE.at h.res (by simp)⟩
end Go.Proofs.Ytgpoplnfhlfogaa
