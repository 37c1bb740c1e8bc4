/- Rows of words as functions of the index; loads and stores of whole rows. No program is named here. -/
import Derived.Test.YtjdojckemphadaaOps
import Derived.Laws.CopyOwn
namespace Go.Proofs.Ytjdojckemphadaa
open Go Go.RowKit

/-- n words of kind u64 -/
def arrF (n : Nat) (F : Nat → Int) : Array Value := ((List.range n).map fun i => Value.int .u64 (F i)).toArray
theorem arrF_size (n : Nat) (F : Nat → Int) : (arrF n F).size = n := by simp [arrF]
theorem arrF_get (n : Nat) (F : Nat → Int) (i : Nat) (h : i < n) : (arrF n F)[i]? = some (.int .u64 (F i)) := by simp [arrF, h]
theorem arrF_set (n : Nat) (F : Nat → Int) (k : Nat) (v : Int) : (arrF n F).setIfInBounds k (.int .u64 v) = arrF n (fun i => if i = k then v else F i) := by
  apply Array.ext
  · simp [arrF]
  · intro i h1 h2
    simp only [arrF, Array.size_setIfInBounds, List.size_toArray, List.length_map, List.length_range] at h1
    by_cases hk : i = k
    · subst hk; simp [arrF]
    · simp [arrF, hk, Ne.symm hk]
theorem arrF_congr (n : Nat) (F G : Nat → Int) (h : ∀ i, i < n → F i = G i) : arrF n F = arrF n G := by
  unfold arrF; congr 1; exact List.map_congr_left (fun i hi => by rw [h i (List.mem_range.1 hi)])
theorem arrF_inj (n : Nat) (F G : Nat → Int) (h : arrF n F = arrF n G) : ∀ i, i < n → F i = G i := fun i hi => by
  have h1 := arrF_get n F i hi
  rw [h, arrF_get n G i hi] at h1
  injection h1 with h1
  injection h1 with _ h1
  exact h1.symm
theorem arrF_one (n : Nat) (F : Nat → Int) : ∀ v ∈ (arrF n F).toList, v.oneCell' = true := by
  intro v hv
  simp [arrF] at hv
  obtain ⟨i, _, rfl⟩ := hv
  rfl

theorem arrF_list (n : Nat) (F : Nat → Int) (i : Nat) : (arrF n F).toList[i]? = if i < n then some (.int .u64 (F i)) else none := by
  by_cases h : i < n <;> simp [arrF, h]
theorem arrF_splice2 (n o : Nat) (F : Nat → Int) (p q : Int) (h : o + 2 ≤ n) :
    ((arrF n F).toList.take o ++ [Value.int .u64 p, Value.int .u64 q] ++ (arrF n F).toList.drop (o + 2)).toArray = arrF n (fun i => if i = o then p else if i = o + 1 then q else F i) := by
  apply Array.toList_inj.1
  apply List.ext_getElem?
  intro i
  have hl : (arrF n F).toList.length = n := by simp [arrF]
  rw [arrF_list]
  show (List.take o (arrF n F).toList ++ [Value.int .u64 p, Value.int .u64 q] ++ List.drop (o + 2) (arrF n F).toList)[i]? = _
  have ht : (List.take o (arrF n F).toList).length = o := by rw [List.length_take, hl]; omega
  rw [List.append_assoc]
  by_cases h1 : i < o
  · rw [List.getElem?_append_left (by omega), List.getElem?_take, if_pos h1, arrF_list, if_pos (by omega), if_pos (by omega), if_neg (by omega), if_neg (by omega)]
  · rw [List.getElem?_append_right (by omega), ht]
    by_cases h2 : i = o
    · subst h2; simp; omega
    · by_cases h3 : i = o + 1
      · subst h3; simp; omega
      · rw [List.getElem?_append_right (by simp; omega)]
        simp only [List.length_cons, List.length_nil, List.getElem?_drop]
        rw [show o + 2 + (i - o - (0 + 1 + 1)) = i from by omega, arrF_list, if_neg h2, if_neg h3]

section
variable {P : Program}

theorem wpList_loadrow {ops : Array Oper} {rest : List Oper} {o : Oper} {a : Act} {w : World} {Q : Exit → Act → World → Prop} (ty : TypeId) (x : Operand) (ho : o.op = .load ty x) (hw : Region.wanted o (yielded ops a.tmps) = true)
    (g : Nat) (hx : a.eval x = .pointer (some ⟨g, 0, none⟩)) (t : TypeId) (cs : Array Value) (fr : Nat × Nat) (d : TypeDesc) (hg : w.heap[g]? = some (.cells cs t fr))
    (hu : P.underlying ty = some d) (hd : (match d with | .struct _ | .array _ _ => true | _ => false) = true) (hi : (P.info? ty).map (·.size) = some cs.size)
    (h : wpList P ops Q rest (a.put o.dst (.agg cs)) w) : wpList P ops Q (o :: rest) a w := by
  unfold wpList
  rw [if_pos hw]
  exact .inl (wp_load_row ty x ho g hx t cs fr d hg hu hd hi h)

theorem results_cell_tmp {fn : Func} {p q : Tmp} {ty : TypeId} (h : fn.results = #[.cell p ty, .tmp q]) (tmps : Array Value) (w : World) (g : Nat) (t : TypeId) (cs : Array Value) (fr : Nat × Nat) (d : TypeDesc)
    (hp : tmps.getD p undef = .pointer (some ⟨g, 0, none⟩)) (hg : w.heap[g]? = some (.cells cs t fr))
    (hu : P.underlying ty = some d) (hd : (match d with | .struct _ | .array _ _ => true | _ => false) = true) (hi : (P.info? ty).map (·.size) = some cs.size) :
    (results fn tmps).run P w = .ok (.tuple #[.agg cs, tmps.getD q undef]) w := by
  have hp' : tmps[p]?.getD undef = .pointer (some ⟨g, 0, none⟩) := by simpa using hp
  simp [results, h, hp', asAddr, run_loadVar_row w g t ty cs fr d hg hu hd hi]

theorem run_partInt (w : World) (e : TypeId) (kk : IntKind) (he : P.underlying e = some (.int kk)) (cs : Array Value) (i : Nat) (v : Value) (h : cs[i]? = some v) : (part e cs i).run P w = .ok v w := by
  simp [part, isAgg, run_underlying he, h]
theorem run_equalIn_arr (w : World) (d t n e : Nat) (kk : IntKind) (ht : P.underlying t = some (.array n e)) (he : P.underlying e = some (.int kk)) (hs : (sizeOf e).run P w = .ok 1 w) (F G : Nat → Int) :
    (Op.equalIn (d + 2) t (.agg (arrF n F)) (.agg (arrF n G))).run P w = .ok ((List.range n).all fun i => F i == G i) w := by
  rw [Op.equalIn]
  simp only [Sem.run_bind, run_underlying ht, Result.andThen_ok, hs]
  rw [Std.Legacy.Range.forIn_eq_forIn_range']
  simp only [Std.Legacy.Range.size, Nat.sub_zero, Nat.add_sub_cancel, Nat.div_one, Nat.mul_one]
  have hsub : ∀ i ∈ List.range' 0 n 1, i < n := fun i hi => by simp [List.mem_range'] at hi; omega
  rw [List.range_eq_range']
  generalize List.range' 0 n 1 = l at hsub
  induction l with
  | nil => simp
  | cons i l ih =>
    have hi := hsub i (by simp)
    simp only [List.forIn_cons, Sem.run_bind, run_partInt w e kk he _ i _ (arrF_get n F i hi), run_partInt w e kk he _ i _ (arrF_get n G i hi), Result.andThen_ok, run_equalIn_int w d e .u64 kk _ _ he]
    cases hb : (F i == G i) with
    | true =>
      simp only [Bool.not_true, Bool.false_eq_true, if_false, Sem.run_pure, Result.andThen_ok, List.all_cons, hb, Bool.true_and]
      exact ih (fun j hj => hsub j (List.mem_cons_of_mem _ hj))
    | false => simp [hb]
theorem run_eqArr (w : World) (t n e : Nat) (kk : IntKind) (ht : P.underlying t = some (.array n e)) (he : P.underlying e = some (.int kk)) (hs : (sizeOf e).run P w = .ok 1 w) (F G : Nat → Int) :
    (binOp .eql t (.agg (arrF n F)) (.agg (arrF n G))).run P w = .ok (.bool ((List.range n).all fun i => F i == G i)) w := by
  rw [run_eql_struct, run_equalIn_arr w 9998 t n e kk ht he hs]; rfl
theorem run_neArr (w : World) (t n e : Nat) (kk : IntKind) (ht : P.underlying t = some (.array n e)) (he : P.underlying e = some (.int kk)) (hs : (sizeOf e).run P w = .ok 1 w) (F G : Nat → Int) :
    (binOp .neq t (.agg (arrF n F)) (.agg (arrF n G))).run P w = .ok (.bool (!((List.range n).all fun i => F i == G i))) w := by
  rw [run_neq_struct, run_equalIn_arr w 9998 t n e kk ht he hs]; rfl

theorem run_storerow (w : World) (g : Nat) (t ty : TypeId) (cs cs' : Array Value) (hg : w.heap[g]? = some (.cells cs t (0, 0))) (hi : (P.info? ty).map (·.size) = some cs'.size) (hs : cs'.size = cs.size) (h1 : ∀ v ∈ cs'.toList, v.oneCell' = true) :
    (storeVar ty ⟨g, 0, none⟩ (.agg cs')).run P w = .ok () (w.setRow g cs') := by
  cases hq : P.info? ty with
  | none => simp [hq] at hi
  | some i =>
    have hsz : i.size = cs'.size := by simpa [hq] using hi
    have hst := run_storeCells_at P g 0 t cs'.toList 0 cs w hg (by simp [hs]) h1
    have hd : cs.toList.drop (0 + 0 + cs'.toList.length) = [] := List.drop_eq_nil_of_le (by simp [hs])
    rw [hd] at hst
    simp only [Nat.add_zero, List.take_zero, List.nil_append, List.append_nil, Array.toArray_toList] at hst
    simp [storeVar, Value.cells, sizeOf, typeInfo, hq, hsz, hst]

theorem ext_setRow {m : List Nat} {w0 w : World} (h : Ext m w0 w) {g : Nat} (hg : g ∈ m ∨ w0.heap.size ≤ g) (cs : Array Value) : Ext m w0 (w.setRow g cs) :=
  ⟨h.os, h.tape, h.output, by simp; exact h.size, fun k hk hn => by
    rw [World.setRow]
    simp only [Array.getElem?_modify]
    rw [if_neg (fun e => by subst e; exact hg.elim hn (fun hl => by omega))]
    exact h.block k hk hn⟩

/-- copy of two words into a row -/
theorem copy2 (w : World) (dT ty elem : TypeId) (g o n sc dc : Nat) (a : Addr) (e : TypeId) (F : Nat → Int) (p q : Int) (hu : P.underlying dT = some (.slice elem)) (hs : (P.info? elem).map (·.size) = some 1)
    (hg : w.heap[g]? = some (.cells (arrF n F) e (0, 0))) (hsrc : ∀ (j : Nat) (v : Value), [Value.int .u64 p, Value.int .u64 q][j]? = some v → w.cell? (a.add j) = some v) (ho : o + 2 ≤ n) :
    ∃ W, (Builtin.copy_ #[dT, dT] ty #[.slice (some ⟨g, o, none⟩) 2 dc, .slice (some a) 2 sc]).run P w = .ok (.int .i64 2) W ∧
      W.heap[g]? = some (.cells (arrF n (fun i => if i = o then p else if i = o + 1 then q else F i)) e (0, 0)) ∧ Ext [g] w W ∧ W.heap.size = w.heap.size := by
  have h := run_copy_row (P := P) w dT dT ty elem g o 2 dc a 2 sc (arrF n F) e [Value.int .u64 p, Value.int .u64 q] hu hs hg rfl hsrc (by rw [arrF_size]; exact ho) (by simp [Value.oneCell'])
  refine ⟨_, h, ?_, ext_setRow (Ext.refl _ _) (.inl (by simp)) _, by simp⟩
  rw [setRow_heap _ _ _ _ _ _ hg]
  rw [show ([Value.int .u64 p, Value.int .u64 q] : List Value).length = 2 from rfl, arrF_splice2 n o F p q ho]

theorem wpList_storerow {ops : Array Oper} {rest : List Oper} {o : Oper} {a : Act} {w : World} {Q : Exit → Act → World → Prop} (ty : TypeId) (x y : Operand) (ho : o.op = .store ty x y) (hw : Region.wanted o (yielded ops a.tmps) = true)
    (g : Nat) (hx : a.eval x = .pointer (some ⟨g, 0, none⟩)) (t : TypeId) (cs cs' : Array Value) (hy : a.eval y = .agg cs') (hg : w.heap[g]? = some (.cells cs t (0, 0)))
    (hi : (P.info? ty).map (·.size) = some cs'.size) (hs : cs'.size = cs.size) (h1 : ∀ v ∈ cs'.toList, v.oneCell' = true)
    (h : ∀ W, Ext [g] w W → W.heap.size = w.heap.size → W.heap[g]? = some (.cells cs' t (0, 0)) → wpList P ops Q rest (a.put o.dst undef) W) : wpList P ops Q (o :: rest) a w := by
  unfold wpList
  rw [if_pos hw]
  refine .inl ?_
  unfold Oper.wp execOp
  simp only [ho, hx, hy, Instr.storeAt, Instr.sureAddr, Sem.run_bind, Sem.run_pure, Result.andThen_ok, run_storerow w g t ty cs cs' hg hi hs h1]
  exact h _ (ext_setRow (Ext.refl _ _) (.inl (by simp)) _) (by simp) (setRow_heap w g cs cs' t (0, 0) hg)
end
end Go.Proofs.Ytjdojckemphadaa
