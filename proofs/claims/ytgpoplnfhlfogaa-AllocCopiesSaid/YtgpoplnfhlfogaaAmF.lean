/- The walk of the law AllocCopies. -/
import Derived.Test.YtgpoplnfhlfogaaAmE
import Derived.Test.YtgpoplnfhlfogaaRwC
import Derived.Test.YtgpoplnfhlfogaaCnt
import Derived.Deep.CutRange
import Derived.Deep.AppendLies
import Derived.Lib.MinMax
namespace Go.Proofs.Ytgpoplnfhlfogaa
open Go Go.RowKit Go.Shelf
attribute [local go_sem] Oper.semAt_some

theorem al4_heap {w : World} (a b c d : Array Value) (ta tb tc td : TypeId) :
    ((((w.alloc (.cells a ta)).alloc (.cells b tb)).alloc (.cells c tc)).alloc (.cells d td)).heap[w.heap.size]? = some (.cells a ta (0, 0)) ∧
    ((((w.alloc (.cells a ta)).alloc (.cells b tb)).alloc (.cells c tc)).alloc (.cells d td)).heap[w.heap.size + 1]? = some (.cells b tb (0, 0)) ∧
    ((((w.alloc (.cells a ta)).alloc (.cells b tb)).alloc (.cells c tc)).alloc (.cells d td)).heap[w.heap.size + 2]? = some (.cells c tc (0, 0)) ∧
    ((((w.alloc (.cells a ta)).alloc (.cells b tb)).alloc (.cells c tc)).alloc (.cells d td)).heap[w.heap.size + 3]? = some (.cells d td (0, 0)) ∧
    ((((w.alloc (.cells a ta)).alloc (.cells b tb)).alloc (.cells c tc)).alloc (.cells d td)).heap.size = w.heap.size + 4 := by
  obtain ⟨h1, h2, h3, hs⟩ := al3_heap (w := w) a b c ta tb tc
  refine ⟨block_al h1, block_al h2, block_al h3, ?_, by simp⟩
  have := World.alloc_heap_new (((w.alloc (.cells a ta)).alloc (.cells b tb)).alloc (.cells c tc)) (.cells d td)
  rwa [hs] at this

/-- an act's cells -/
def actR (a : ActV) : List Value := [.int .i64 a.what, .int .i64 a.many, .slice a.bo a.n a.cap]
theorem actR_ok (n : Nat) (A : Nat → ActV) : RowOk n 3 (fun i => actR (A i)) := ⟨fun _ _ => rfl, fun i _ u hu => by simp [actR] at hu; rcases hu with rfl | rfl | rfl <;> rfl⟩
theorem Acts.row {w : World} {ao : Option Addr} {n : Nat} {A : Nat → ActV} (h : Acts w ao n A) : RowAt w ao n 3 (fun i => actR (A i)) := by
  rcases h with h | ⟨b, off, h1, h2⟩
  · exact .inl h
  · refine .inr ⟨b, off, h1, fun i hi j hj => ?_⟩
    obtain ⟨q0, q1, q2, _⟩ := h2 i hi
    match j, hj with
    | 0, _ => exact q0
    | 1, _ => exact q1
    | 2, _ => exact q2
theorem Acts.of_row {w : World} {ao : Option Addr} {n : Nat} {A : Nat → ActV} (h : RowAt w ao n 3 (fun i => actR (A i))) (hI : ∀ i, i < n → IntsAt w (A i).bo (A i).n (A i).L) : Acts w ao n A := by
  rcases h with h | ⟨b, off, h1, h2⟩
  · exact .inl h
  · exact .inr ⟨b, off, h1, fun i hi => ⟨h2 i hi 0 (by omega), h2 i hi 1 (by omega), h2 i hi 2 (by omega), hI i hi⟩⟩
theorem Acts.ints {w : World} {ao : Option Addr} {n : Nat} {A : Nat → ActV} (h : Acts w ao n A) : ∀ i, i < n → IntsAt w (A i).bo (A i).n (A i).L := by
  rcases h with h | ⟨b, off, h1, h2⟩
  · exact fun i hi => by omega
  · exact fun i hi => (h2 i hi).2.2.2
/-- two acts behind -/
def behind (A : Nat → ActV) (n : Nat) (x y : ActV) : Nat → ActV := fun i => if i < n then A i else if i = n then x else y
theorem behind_rows (A : Nat → ActV) (n : Nat) (x y : ActV) : rowC (fun i => actR (behind A n x y i)) (n + 2) = [] ++ rowC (fun i => actR (A i)) n ++ (actR x ++ actR y) := by
  have h1 : behind A n x y n = x := by simp [behind]
  have h2 : behind A n x y (n + 1) = y := by unfold behind; rw [if_neg (by omega), if_neg (by omega)]
  rw [rowC, rowC, h1, h2, rowC_congr (R' := fun i => actR (A i)) (fun i hi => by simp [behind, hi])]
  simp
theorem behind_lt {A : Nat → ActV} {n i : Nat} {x y : ActV} (h : i < n) : behind A n x y i = A i := by simp [behind, h]
theorem behind_any {A : Nat → ActV} {n : Nat} {x y : ActV} {p : ActV → Prop} (h : ∀ i, i < n → p (A i)) (hx : p x) (hy : p y) : ∀ i, p (behind A n x y i) := fun i => by
  unfold behind
  split
  · exact h i ‹_›
  · split
    · exact hx
    · exact hy
theorem behind_acts {w6 : World} {base : Nat} {v : Value} {A : Nat → ActV} {n : Nat} {x y : ActV} (ho : w6.ownsRow base 45 3 v (0 + n + 2) ([] ++ rowC (fun i => actR (A i)) n ++ (actR x ++ actR y)))
    (hI : ∀ i, i < n + 2 → IntsAt w6 (behind A n x y i).bo (behind A n x y i).n (behind A n x y i).L) : ∃ bo bcap, v = .slice bo (n + 2) bcap ∧ Acts w6 bo (n + 2) (behind A n x y) := by
  rw [← behind_rows, Nat.zero_add] at ho
  obtain ⟨bo, bcap, h1, h2, _⟩ := RowAt.of_owns (actR_ok (n + 2) (behind A n x y)) ho
  exact ⟨bo, bcap, h1, Acts.of_row h2 hI⟩
theorem infoAct : (Try.prog.info? 45).map (fun i => (i.zero, i.size, i.bytes)) = some (some (.agg #[.int .i64 0, .int .i64 0, .slice none 0 0]), 3, 40) := by kernel_rfl
theorem lnEq_comm (S1 S2 : Lns) (k : Int) : lnEq S1 S2 k = lnEq S2 S1 k := by
  unfold lnEq
  rw [Bool.eq_iff_iff]
  simp only [Bool.and_eq_true, beq_iff_eq]
  exact ⟨fun h => ⟨h.1.symm, h.2.symm⟩, fun h => ⟨h.1.symm, h.2.symm⟩⟩
theorem sameB_comm (S1 S2 : Lns) (lo : Int) (n : Nat) : sameB S1 S2 lo n = sameB S2 S1 lo n := by
  unfold sameB
  congr 1
  funext k
  exact lnEq_comm S1 S2 k

/-- behind two calls, on a copy and on the pool -/
structure CpSt (w3 W : World) (c3 mb3 c4 mb4 b15 b17 g bb bs bw mb : Nat) (S S2 S3 : Lns) (ro ro3 ro4 : Option Addr) (cap cap3 cap4 : Nat) : Prop where
  p3 : Pool W c3 mb3 3 (3 + ((18 : Nat) : Int) - 1) S2
  p4 : Pool W c4 mb4 3 (3 + ((18 : Nat) : Int) - 1) S3
  r3 : RPl W ro3 3 18 S2
  r4 : RPl W ro4 3 18 S3
  h15 : W.heap[b15]? = some (.cells #[.int .i64 3, .slice ro3 18 cap3] 56 (0, 0))
  h17 : W.heap[b17]? = some (.cells #[.int .i64 3, .slice ro4 18 cap4] 56 (0, 0))
  row : RPl W ro 3 18 S
  want : W.heap[g]? = some (.cells #[.int .i64 3, .slice ro 18 cap] 56 (0, 0))
  lines : LinesAt W bb bs bw mb 3 18 S
  ext : Ext [] w3 W
  res : W.heap[w3.heap.size]? = some (.cells #[.bool false] 4 (0, 0))
theorem CpSt.ext1 {w3 W W' : World} {c3 mb3 c4 mb4 b15 b17 g bb bs bw mb : Nat} {S S2 S3 : Lns} {ro ro3 ro4 : Option Addr} {cap cap3 cap4 : Nat} (h : CpSt w3 W c3 mb3 c4 mb4 b15 b17 g bb bs bw mb S S2 S3 ro ro3 ro4 cap cap3 cap4) (hE : Ext [] W W') :
    CpSt w3 W' c3 mb3 c4 mb4 b15 b17 g bb bs bw mb S S2 S3 ro ro3 ro4 cap cap3 cap4 :=
  ⟨h.p3.ext hE (by simp) (by simp), h.p4.ext hE (by simp) (by simp), h.r3.ext0 hE, h.r4.ext0 hE, hE.at h.h15 (by simp), hE.at h.h17 (by simp), h.row.ext0 hE, hE.at h.want (by simp), h.lines.ext hE (by simp) (by simp) (by simp) (by simp), h.ext.trans hE, hE.at h.res (by simp)⟩

set_option maxRecDepth 100000 in
set_option maxHeartbeats 8000000 in
theorem al_copies (ao : Option Addr) (n cap : Nat) (A : Nat → ActV) (x y : ActV) (many : Int) (w : World) (hp : Acts w ao n A) (hr : n * 40 ≤ 140737488351232) (hA : ∀ i, i < n → ActOk (A i))
    (hxi : IntsAt w x.bo x.n x.L) (hyi : IntsAt w y.bo y.n y.L) (hx : ActOk x) (hy : ActOk y) (hm : I64 many) :
    Calls Try.prog 7 #[.slice ao n cap, .agg #[.int .i64 x.what, .int .i64 x.many, .slice x.bo x.n x.cap], .agg #[.int .i64 y.what, .int .i64 y.many, .slice y.bo y.n y.cap], .int .i64 many] w fun e w' => e = .returned (.bool true) ∧ Ext [] w w' := by
  have HW := Lib.hid (al_works)
  obtain ⟨w3, hw3⟩ : ∃ w3, ((w.alloc (.cells #[.int .i64 x.what, .int .i64 x.many, .slice x.bo x.n x.cap] 45)).alloc (.cells #[.int .i64 y.what, .int .i64 y.many, .slice y.bo y.n y.cap] 45)).alloc (.cells #[.int .i64 many] 3) = w3 := ⟨_, rfl⟩
  have hE3 : Ext [] w w3 := by rw [← hw3]; exact (((Ext.refl _ _).alloc _).alloc _).alloc _
  have hs3 : w3.heap.size = w.heap.size + 3 := by rw [← hw3]; simp
  obtain ⟨w0, hw0⟩ : ∃ w0, w3.alloc (.cells #[.bool false] 4) = w0 := ⟨_, rfl⟩
  have hE0 : Ext [] w3 w0 := by rw [← hw0]; exact (Ext.refl _ _).alloc _
  have hbs : w0.heap[w.heap.size]? = some (.cells #[.int .i64 x.what, .int .i64 x.many, .slice x.bo x.n x.cap] 45 (0, 0)) ∧ w0.heap[w.heap.size + 1]? = some (.cells #[.int .i64 y.what, .int .i64 y.many, .slice y.bo y.n y.cap] 45 (0, 0)) ∧
      w0.heap[w.heap.size + 2]? = some (.cells #[.int .i64 many] 3 (0, 0)) ∧ w0.heap[w.heap.size + 3]? = some (.cells #[.bool false] 4 (0, 0)) ∧ w0.heap.size = w.heap.size + 4 := by
    rw [← hw0, ← hw3]
    exact al4_heap _ _ _ _ _ _ _ _
  have fin : Hid (∀ (Ds : List Nat) (W : World) (x : Value), (∀ D ∈ Ds, W.heap[D]? = some (.deferred (some [])) ∧ w.heap.size + 3 < D) → Ds.Nodup → W.heap[w.heap.size + 3]? = some (.cells #[x] 4 (0, 0)) → Ext [] w W → ∀ tmps : Array Value, tmps.getD 8 undef = .pointer (some ⟨w.heap.size + 3, 0, none⟩) →
      LeavesInM Fence.wide 0 Try.prog Try.f7 tmps (fun e w' => e = .returned (.bool true) ∧ Ext [] w w') (Ds.map fun D => { target := .collected D, args := #[] }) .returning (W.setCell ⟨w.heap.size + 3, 0, none⟩ (.bool true))) := by
    intro Ds W x hD hnd hb hE tmps ht
    obtain ⟨W5, hW5⟩ : ∃ W5, W5 = W.setCell ⟨w.heap.size + 3, 0, none⟩ (.bool true) := ⟨_, rfl⟩
    have b5 : W5.heap[w.heap.size + 3]? = some (.cells #[.bool true] 4 (0, 0)) := by rw [hW5]; exact cell1_set hb _
    have e5 : Ext [] w W5 := by rw [hW5]; exact hE.setCell (.inr (by simp)) _
    have d5 : ∀ D ∈ Ds, W5.heap[D]? = some (.deferred (some [])) := fun D hd => by rw [hW5]; exact block_sc (show D ≠ w.heap.size + 3 by have := (hD D hd).2; omega) (hD D hd).1
    rw [← hW5]
    exact leaves_marks (v := .bool true) Ds W5 d5 hnd (fun w' hE' => ⟨results_cellb Try.results7 _ _ ⟨w.heap.size + 3, 0, none⟩ _ (by kernel_rfl) ht (hE'.cell (cell_of (j := 0) b5 rfl) (fun hm => by have := (hD _ hm).2; simp at this)), rfl, e5.trans' hE' (fun j hj => .inr (by have := (hD j hj).2; omega))⟩)
  have HP := Lib.hid (And.intro hp (And.intro hA (And.intro hxi (And.intro hyi (And.intro hx (And.intro hy (And.intro hm hr)))))))
  have H0 := Lib.hid (And.intro hE3 (And.intro hE0 (And.intro hbs hs3)))
  have HF := Lib.hid (fun (W : World) (bo : Option Addr) (bcap : Nat) (hq : Acts W bo (n + 2) (behind A n x y)) => al_few bo (n + 2) bcap (behind A n x y) 22 W hq (by omega)
    (fun i _ => behind_any (p := fun a => a.n ≤ 9223372036854775807) (fun i hi => by have := (hA i hi).2.2.1; unfold maxLen at this; omega) (by have := hx.2.2.1; unfold maxLen at this; omega) (by have := hy.2.2.1; unfold maxLen at this; omega) i))
  have HB : Hid (∀ W, Ext [] w3 W → W.heap[w.heap.size]? = some (.cells #[.int .i64 x.what, .int .i64 x.many, .slice x.bo x.n x.cap] 45 (0, 0)) ∧ W.heap[w.heap.size + 1]? = some (.cells #[.int .i64 y.what, .int .i64 y.many, .slice y.bo y.n y.cap] 45 (0, 0)) ∧ W.heap[w.heap.size + 2]? = some (.cells #[.int .i64 many] 3 (0, 0))) := by
    intro W hE
    have key : ∀ k, k < w.heap.size + 3 → W.heap[k]? = w0.heap[k]? := fun k hk => (hE.block k (by omega) (by simp)).trans (hE0.block k (by omega) (by simp)).symm
    exact ⟨(key _ (by omega)).trans hbs.1, (key _ (by omega)).trans hbs.2.1, (key _ (by omega)).trans hbs.2.2.1⟩
  obtain ⟨x0, x1, x2, x3, x4⟩ := hbs
  have k0 := cell_of (j := 0) (v := .int .i64 x.what) x0 rfl
  have k1 := cell_of (j := 1) (v := .int .i64 x.many) x0 rfl
  have k2 := cell_of (j := 2) (v := .slice x.bo x.n x.cap) x0 rfl
  have k3 := cell_of (j := 0) (v := .int .i64 y.what) x1 rfl
  have k4 := cell_of (j := 1) (v := .int .i64 y.many) x1 rfl
  have k5 := cell_of (j := 2) (v := .slice y.bo y.n y.cap) x1 rfl
  clear hE3 hE0 hp hA hxi hyi hx hy hm hr x0 x1 x2 x3 x4
  refine (callsIn_wide (n := 0)).1 (callsIn_of_wp_marks Try.func7 rfl trivial ?_ rfl)
  simp only [Try.ntmps7, List.size_toArray, List.length_cons, List.length_nil, Nat.reduceAdd, Nat.reduceSub, Array.replicate_succ, Array.replicate_zero, List.push_toArray, List.append_toArray, List.nil_append, List.cons_append]
  refine wpIn_wide.2 (wp_mono (Q := NoPanic (bodyPostM Fence.wide 0 Try.prog Try.f7 fun e w' => e = .returned (.bool true) ∧ Ext [] w w')) ?_ NoPanic.out)
  go_upto_region 1 with fail
  clear hw3 hw0 hs3
  go_cut [31] from 23 to 31 (fun s wx => s = .bool (!fewB (n + 2) (behind A n x y) 22) ∧ Ext [] w0 wx)
  case first =>
    obtain ⟨i0, hi, hz0, hz1, hz2⟩ := info_parts infoAct
    have hsA : RowSrc w0 ao n 3 (rowC (fun i => actR (A i)) n) := (HP.out.1.row.src (actR_ok n A)).ext (H0.out.1.trans H0.out.2.1) (fun _ _ => by simp)
    have HI : Hid (∀ W, Ext [] w0 W → ∀ i, i < n + 2 → IntsAt W (behind A n x y i).bo (behind A n x y i).n (behind A n x y i).L) := by
      intro W hE i hi
      have hEW := (H0.out.1.trans H0.out.2.1).trans hE
      unfold behind
      split
      · exact (HP.out.1.ints i ‹_›).ext hEW
      · split
        · exact HP.out.2.2.1.ext hEW
        · exact HP.out.2.2.2.1.ext hEW
    have HSA := Lib.hid hsA
    have HZ : Hid (w0.heap.size = w.heap.size + 4 ∧ n * 40 ≤ 140737488351232) := ⟨H0.out.2.2.1.2.2.2.2, HP.out.2.2.2.2.2.2.2⟩
    clear hsA
    have hI1 := Lib.hid hi
    have hI2 := Lib.hid hz0
    have hI3 := Lib.hid hz1
    have hI4 := Lib.hid hz2
    clear hi hz0 hz1 hz2
    go_region_held3 (fun w' => w'.cell? ⟨w.heap.size, 0, none⟩ = some (.int .i64 x.what) ∧ w'.cell? ⟨w.heap.size, 1, none⟩ = some (.int .i64 x.many) ∧ w'.cell? ⟨w.heap.size, 2, none⟩ = some (.slice x.bo x.n x.cap) ∧
        w'.cell? ⟨w.heap.size + 1, 0, none⟩ = some (.int .i64 y.what) ∧ w'.cell? ⟨w.heap.size + 1, 1, none⟩ = some (.int .i64 y.many) ∧ w'.cell? ⟨w.heap.size + 1, 2, none⟩ = some (.slice y.bo y.n y.cap))
      (first
        | go_keep
        | (have hXX : Ext [] w0 w5 := by (refine hX5 w0 ?_ (Nat.le_refl _); repeat (first | exact Ext.refl [] _ | refine Ext.drew ?_ | refine Ext.alloc ?_ _))
           exact ⟨hXX.cell k0 (by simp), hXX.cell k1 (by simp), hXX.cell k2 (by simp), hXX.cell k3 (by simp), hXX.cell k4 (by simp), hXX.cell k5 (by simp)⟩)
        | exact ⟨hX.cell k0 (by simp), hX.cell k1 (by simp), hX.cell k2 (by simp), hX.cell k3 (by simp), hX.cell k4 (by simp), hX.cell k5 (by simp)⟩)
      ((first
        | ((refine step_append_any (by rfl) (.tmp 23) (.tmp 24) 37 (by rfl) w0.heap.size 45 i0 (.agg #[.int .i64 0, .int .i64 0, .slice none 0 0]) 3 40 Try.underlying37 hI1.out hI2.out hI3.out hI4.out rfl (by omega) (.slice (some ⟨w0.heap.size, 0, none⟩) 0 0) 0 [] (by rfl) ?_ ao n cap (rowC (fun i => actR (A i)) n) (by rfl) ?_ ?_ ?_ ?_ ?_)
           · (refine owns_empty ?_ ?_
              · (first | exact World.alloc_heap_new _ _ | exact (al2_heap _ _ _ _).1 | exact (al2_heap _ _ _ _).2.1)
              · simp)
           · (refine HSA.out.ext (k := []) ?_ (fun _ _ => by simp)
              repeat (first | exact Ext.refl [] _ | refine Ext.drew ?_ | refine Ext.alloc ?_ _))
           · (have := HZ.out.2; unfold maxLen; omega)
           · (have := HZ.out.2; omega)
           · (simp; try omega)
           intro v1 w5 ho1 hE5 hX5)
        | ((refine step_append_any (by rfl) (.tmp 23) (.tmp 24) 37 (by rfl) w0.heap.size 45 i0 (.agg #[.int .i64 0, .int .i64 0, .slice none 0 0]) 3 40 Try.underlying37 hI1.out hI2.out hI3.out hI4.out rfl (by omega) (.slice (some ⟨w0.heap.size + 1, 0, none⟩) 0 0) 0 [] (by rfl) ?_ ao n cap (rowC (fun i => actR (A i)) n) (by rfl) ?_ ?_ ?_ ?_ ?_)
           · (refine owns_empty ?_ ?_
              · (first | exact World.alloc_heap_new _ _ | exact (al2_heap _ _ _ _).1 | exact (al2_heap _ _ _ _).2.1)
              · simp)
           · (refine HSA.out.ext (k := []) ?_ (fun _ _ => by simp)
              repeat (first | exact Ext.refl [] _ | refine Ext.drew ?_ | refine Ext.alloc ?_ _))
           · (have := HZ.out.2; unfold maxLen; omega)
           · (have := HZ.out.2; omega)
           · (simp; try omega)
           intro v1 w5 ho1 hE5 hX5)
        | ((refine step_append_any (by rfl) (.tmp 25) (.tmp 28) 37 (by rfl) w0.heap.size 45 i0 (.agg #[.int .i64 0, .int .i64 0, .slice none 0 0]) 3 40 Try.underlying37 hI1.out hI2.out hI3.out hI4.out rfl (by omega) _ (0 + n) ([] ++ rowC (fun i => actR (A i)) n) (by rfl) ?_ _ 2 2 (actR x ++ actR y) (by rfl) ?_ ?_ ?_ ?_ ?_)
           · (first | exact ho1 | exact ho1.alloc _)
           · (refine .inr ⟨_, rfl, rfl, World.news_of_block (cs := #[.int .i64 x.what, .int .i64 x.many, .slice x.bo x.n x.cap, .int .i64 y.what, .int .i64 y.many, .slice y.bo y.n y.cap]) (t := 45) (fr := (0, 0)) ?_, ?_⟩
              · (first | exact World.alloc_heap_new _ _ | exact hE5.at (al2_heap _ _ _ _).2.1 (by simp [Value.ownBlock]) | exact hE5.at (al2_heap _ _ _ _).1 (by simp [Value.ownBlock]))
              · simp [actR, Value.oneCell'])
           · (have := HZ.out.2; unfold maxLen; omega)
           · (have := HZ.out.2; omega)
           · (have := hE5.size; simp at this ⊢; omega)
           intro v2 w6 ho2 hE6 hX6
           have hX : Ext [] w0 w6 := by
             refine hX6 w0 ?_ (Nat.le_refl _)
             first
               | (refine hX5 w0 ?_ (Nat.le_refl _); repeat (first | exact Ext.refl [] _ | refine Ext.drew ?_ | refine Ext.alloc ?_ _))
               | (refine Ext.alloc (hX5 w0 ?_ (Nat.le_refl _)) _; repeat (first | exact Ext.refl [] _ | refine Ext.drew ?_ | refine Ext.alloc ?_ _))
           obtain ⟨bo, bcap, rfl, hq⟩ := behind_acts ho2 (HI.out w6 hX)
           have HQ := Lib.hid hq
           clear hq ho2 hE6 hX6)
        | (go_at_call 20; refine (HF.out _ _ _ HQ.out).mono ?_; rintro e w' ⟨rfl, rfl⟩)))
    all_goals (go_wp2_with fail; go_meet; exact ⟨rfl, hX⟩)
  case rest =>
    obtain ⟨rfl, hEc⟩ := hcut
    clear k0 k1 k2 k3 k4 k5
    cases hf : fewB (n + 2) (behind A n x y) 22 with
    | false =>
      clear HF hf
      go_wp2_with fail
      refine (HW.out _).mono ?_
      rintro e w2 ⟨rfl, hE2⟩
      have hb2 := (hEc.trans hE2).at H0.out.2.2.1.2.2.2.1 (by simp)
      have k2 := cell_of (j := 0) (v := .bool false) hb2 rfl
      have f2 := free_of hb2 0
      have H2 := Lib.hid (And.intro (((H0.out.1.trans H0.out.2.1).trans hEc).trans hE2) hb2)
      clear hE2 hb2 hEc
      go_wp2
      show LeavesInM _ _ _ _ _ _ _ _ _
      refine fin.out [] w2 (.bool false) (fun D hD => (by cases hD)) (by simp) H2.out.2 H2.out.1 _ ?_
      rfl
    | true =>
      have HFW := Lib.hid (fewB_true hf)
      have HEC := Lib.hid hEc
      clear HF hf hEc
      have HN := Lib.hid (al_New 3 20 wc (by omega) (by omega) (by omega))
      go_wp2_with fail
      refine HN.out.mono ?_
      rintro e w1 ⟨rfl, hE1, hp1⟩
      obtain ⟨c, hc⟩ : ∃ c, c = wc.heap.size + 1 := ⟨_, rfl⟩
      rw [← hc] at hp1 ⊢
      have hp1' : Pool w1 c wc.heap.size 3 (3 + ((18 : Nat) : Int) - 1) S0 := hp1
      have H1 := Lib.hid (And.intro hE1 (And.intro hp1' hc))
      have hrn := rf_New 3 18 w1 (by omega) (by omega) (by omega) (by omega)
      rw [show (3 : Int) + ((18 : Nat) : Int) - 1 = 20 from by omega] at hrn
      have HRN := Lib.hid hrn
      clear hE1 hp1 hp1' hc hrn HN
      go_wp2_with fail
      refine HRN.out.mono ?_
      rintro e w2 ⟨ro, rfl, hE2, hR2⟩
      obtain ⟨W3, hW3⟩ : ∃ W3, w2.alloc (.cells #[.int .i64 3, .slice ro 18 18] 56) = W3 := ⟨_, rfl⟩
      have hst : ∃ g, g = w2.heap.size ∧ PlSt w3 W3 c wc.heap.size g 3 18 S0 ro 18 0 := by
        have hE3 : Ext [] w2 W3 := by rw [← hW3]; exact (Ext.refl _ _).alloc _
        have hEw : Ext [] w0 W3 := ((HEC.out.trans H1.out.1).trans hE2).trans hE3
        refine ⟨_, rfl, H1.out.2.1.ext (hE2.trans hE3) (by simp) (by simp), hR2.ext0 hE3, by rw [← hW3]; exact World.alloc_heap_new _ _, by rw [H0.out.2.2.2]; exact hEw.at H0.out.2.2.1.2.2.2.1 (by simp), w_cnt0, fun k hk => by simp [S0] at hk, H0.out.2.1.trans hEw, ?_, ?_⟩
        · have := H1.out.2.2
          have := HEC.out.size
          have := H0.out.2.2.1.2.2.2.2
          have := H0.out.2.2.2
          omega
        · have := ((HEC.out.trans H1.out.1).trans hE2).size
          have := H0.out.2.2.1.2.2.2.2
          have := H0.out.2.2.2
          omega
      obtain ⟨g, hg, hst⟩ := hst
      have HS := Lib.hid hst
      have hn20 : n ≤ 20 := by have := HFW.out.2; omega
      clear hE2 hR2 hst
      go_wp2_with fail
      rw [← hg]
      clear hg
      go_loopg [9, 12] n (fun k p i wr => ∃ (j c mb cap' : Nat) (S : Lns) (ro : Option Addr), i = .int .i64 j ∧ p = .pointer (some ⟨c, 0, none⟩) ∧ j + k = n ∧ PlSt w3 wr c mb g 3 18 S ro cap' j)
      case atStart => exact ⟨0, c, _, 18, S0, ro, rfl, rfl, by omega, HS.out⟩
      case round =>
        clear HS H1 HRN hW3
        obtain ⟨j, c, mb, cap', S, ro, rfl, rfl, hjk, hst⟩ := hrel
        by_cases hlt : j < n
        · have HAJ := Lib.hid (HP.out.2.1 j hlt)
          have hEw : Ext [] w wr := H0.out.1.trans hst.ext
          obtain ⟨b, off, rfl, hI0, k1, k2, k3⟩ : ∃ b off, ao = some ⟨b, off, none⟩ ∧ IntsAt w (A j).bo (A j).n (A j).L ∧ wr.cell? ⟨b, off + j * 3, none⟩ = some (.int .i64 (A j).what) ∧ wr.cell? ⟨b, off + j * 3 + 1, none⟩ = some (.int .i64 (A j).many) ∧
              wr.cell? ⟨b, off + j * 3 + 2, none⟩ = some (.slice (A j).bo (A j).n (A j).cap) := by
            rcases HP.out.1 with h | ⟨b, off, h1, h2⟩
            · omega
            · exact ⟨b, off, h1, (h2 j hlt).2.2.2, hEw.cell (h2 j hlt).1 (by simp), hEw.cell (h2 j hlt).2.1 (by simp), hEw.cell (h2 j hlt).2.2.1 (by simp)⟩
          have HACT : Hid (∀ W, Ext [] wr W → Calls Try.prog 33 #[.pointer (some ⟨c, 0, none⟩), .agg #[.int .i64 3, .slice ro 18 cap'], .agg #[.int .i64 (A j).what, .int .i64 (A j).many, .slice (A j).bo (A j).n (A j).cap]] W fun e w' =>
              ∃ c' mb' ro' capn, e = .returned (.tuple #[.pointer (some ⟨c', 0, none⟩), .agg #[.int .i64 3, .slice ro' 18 capn], .bool true]) ∧ Ext [c] W w' ∧ Ext [c] wr w' ∧ Pool w' c' mb' 3 (3 + ((18 : Nat) : Int) - 1) (actN S 3 18 (A j).what (A j).many (lst (A j).L (A j).n)) ∧
                RPl w' ro' 3 18 (actN S 3 18 (A j).what (A j).many (lst (A j).L (A j).n)) ∧ (c' = c ∨ wr.heap.size ≤ c')) := by
            intro W hE
            refine (al_act c mb 3 18 S ro cap' (A j) W (by omega) (by omega) (by omega) (hst.ext1 hE).pool (hst.ext1 hE).row (cntB_le hst.cnt (by omega)) hst.ins HAJ.out
              (fun w' hE' => hI0.ext ((hEw.trans hE).trans' hE' (fun q hq => .inr (by have := hst.hc; have := H0.out.2.2.2; simp at hq; omega))))).mono ?_
            rintro e w' ⟨c', mb', ro', capn, he, h1, h2, h3, h4⟩
            exact ⟨c', mb', ro', capn, he, h1, hE.wide.trans h1, h2, h3, h4.imp id (fun h => Nat.le_trans hE.size h)⟩
          have hgc : g ∉ [c] := by have := hst.cg; simpa using this
          have q1 := cell_of (j := 0) (v := .int .i64 3) hst.want rfl
          have q2 := cell_of (j := 1) (v := .slice ro 18 cap') hst.want rfl
          have HWG := Lib.hid hst.want
          have HS := Lib.hid hst
          have hblt : b < wr.heap.size := World.block_lt_of_cell? _ _ k1
          have HJK := Lib.hid (And.intro hjk hn20)
          have HGC := Lib.hid hgc
          clear hst hjk hn20 hI0 hEw hgc
          generalize A j = a at *
          go_wp2
          go_region_with (go_at_call 33; refine (HACT.out _ ?_).mono ?_; (first | exact Ext.drew (Ext.refl _ _) | exact Ext.refl _ _); rintro e w5 ⟨c', mb', ro', capn, rfl, hE5w, hE5, hp5, hR5, hc5⟩; have wg := hE5.at HWG.out HGC.out; have r1 := cell_of (j := 0) (v := .int .i64 3) wg rfl; have r2 := cell_of (j := 1) (v := .slice ro 18 cap') wg rfl; have fr1 := free_of wg 0; have fr2 := free_of wg 1; have H5 := Lib.hid (And.intro hE5 (And.intro hp5 (And.intro hR5 hc5))); clear hE5 hE5w hp5 hR5 hc5 wg q1 q2 k1 k2 k3 hblt)
          all_goals go_wp2
          all_goals
            have HST := Lib.hid (HS.out.acted (cap' := capn) H5.out.1 H5.out.2.1 H5.out.2.2.1 H5.out.2.2.2 (actN_cnt HS.out.cnt _ _ _) (HS.out.ins.act _ _ _) (Ext.refl [] w5))
            go_roundg (n - (j + 1))
          all_goals
            have hjk := HJK.out.1
            have hn20 := HJK.out.2
            have hwj : wrap64 ((j : Int) + 1) = (j : Int) + 1 := IntWalk.wrap64_in _ (by omega)
          all_goals first
            | omega
            | exact ⟨j + 1, c', mb', capn, _, ro', by (first | (rw [hwj]; rfl) | (simp [hwj]) | go_num), rfl, by omega, by simpa using HST.out⟩
        · have hd : decide (j < n) = false := by simpa using hlt
          have HS := Lib.hid hst
          have HJ := Lib.hid (And.intro hjk (And.intro hn20 hlt))
          clear hst hjk hn20 hlt
          go_wp2_with fail
          refine (al_Copy c mb 3 _ S wr HS.out.pool).mono ?_
          rintro e w5 ⟨c2, mb2, rfl, hE5, hp5, hc2, hm2⟩
          have H5 := Lib.hid (And.intro hE5 (And.intro hp5 (And.intro hc2 hm2)))
          clear hE5 hp5 hc2 hm2
          go_wp2_with fail
          refine (al_Lines c mb 3 18 S w5 (HS.out.pool.ext H5.out.1 (by simp) (by simp))).mono ?_
          rintro e w6 ⟨bb, bs, bw, rfl, hE6, hL6, hbb, hbs, hbw⟩
          have H6 := Lib.hid (And.intro hE6 (And.intro hL6 (And.intro hbb (And.intro hbs hbw))))
          have S6 := Lib.hid (HS.out.ext1 (H5.out.1.trans hE6))
          have HN : Hid (c < wr.heap.size ∧ mb < wr.heap.size ∧ g < wr.heap.size ∧ w3.heap.size < wr.heap.size ∧ wr.heap.size ≤ c2 ∧ c2 < w5.heap.size ∧ w5.heap.size ≤ bb ∧ w5.heap.size ≤ bs ∧ w5.heap.size ≤ bw ∧ g ≠ c ∧ w3.heap.size < c ∧ mb ≠ c) :=
            ⟨lt_of_block HS.out.pool.1, HS.out.pool.2.lt, lt_of_block HS.out.want, lt_of_block HS.out.res, H5.out.2.2.1, lt_of_block H5.out.2.1.1, hbb, hbs, hbw, HS.out.cg, HS.out.hc, HS.out.pool.2.apart HS.out.pool.1⟩
          clear hE6 hL6 hbb hbs hbw
          have q1 := cell_of (j := 0) (v := .int .i64 3) S6.out.want rfl
          have q2 := cell_of (j := 1) (v := .slice ro 18 cap') S6.out.want rfl
          have k0 := cell_of (j := 0) (v := .int .i64 x.what) (HB.out w6 S6.out.ext).1 rfl
          have k1 := cell_of (j := 1) (v := .int .i64 x.many) (HB.out w6 S6.out.ext).1 rfl
          have k2 := cell_of (j := 2) (v := .slice x.bo x.n x.cap) (HB.out w6 S6.out.ext).1 rfl
          go_wp2_with fail
          clear q1 q2 k0 k1 k2
          refine (al_act c2 mb2 3 18 S ro cap' x w6 (by omega) (by omega) (by omega) (H5.out.2.1.ext H6.out.1 (by simp) (by simp)) S6.out.row (cntB_le S6.out.cnt (by have := HJ.out.1; have := HJ.out.2.1; omega)) S6.out.ins HP.out.2.2.2.2.1
            (fun w' hE' => HP.out.2.2.1.ext ((H0.out.1.trans S6.out.ext).trans' hE' (fun q hq => .inr (by have := HN.out; have := H0.out.2.2.2; simp at hq; omega))))).mono ?_
          rintro e w7 ⟨c3, mb3, ro3, cap3, rfl, hE7, hp7, hR7, hc3⟩
          obtain ⟨S2, hS2⟩ : ∃ S2, actN S 3 18 x.what x.many (lst x.L x.n) = S2 := ⟨_, rfl⟩
          rw [hS2] at hp7 hR7
          clear hS2
          obtain ⟨W8, hW8⟩ : ∃ W8, w7.alloc (.cells #[.int .i64 3, .slice ro3 18 cap3] 56) = W8 := ⟨_, rfl⟩
          have hE78 : Ext [] w7 W8 := by rw [← hW8]; exact (Ext.refl _ _).alloc _
          have hE8 : Ext [c2] w6 W8 := hE7.then hE78
          have H7 : Hid (Pool W8 c mb 3 (3 + ((18 : Nat) : Int) - 1) S ∧ RPl W8 ro 3 18 S ∧ W8.heap[g]? = some (.cells #[.int .i64 3, .slice ro 18 cap'] 56 (0, 0)) ∧ LinesAt W8 bb bs bw mb 3 18 S ∧ Ext [] w3 W8 ∧
              W8.heap[w3.heap.size]? = some (.cells #[.bool false] 4 (0, 0)) ∧ Pool W8 c3 mb3 3 (3 + ((18 : Nat) : Int) - 1) S2 ∧ RPl W8 ro3 3 18 S2 ∧ W8.heap[w7.heap.size]? = some (.cells #[.int .i64 3, .slice ro3 18 cap3] 56 (0, 0)) ∧ c3 ≠ c ∧ w6.heap.size ≤ w7.heap.size) := by
            have hn := HN.out
            refine ⟨S6.out.pool.ext hE8 (by simp; omega) (by simp; omega), (S6.out.row.apartP (H5.out.2.1.ext H6.out.1 (by simp) (by simp)).1 hE7).ext0 hE78, hE8.at S6.out.want (by simp; omega), H6.out.2.1.ext hE8 (by simp; omega) (by simp; omega) (by simp; omega) (by simp; omega),
              S6.out.ext.trans' hE8 (fun q hq => .inr (by simp at hq; omega)), hE8.at S6.out.res (by simp; omega), hp7.ext hE78 (by simp) (by simp), hR7.ext0 hE78, by rw [← hW8]; exact World.alloc_heap_new _ _, ?_, hE7.size⟩
            have := H6.out.1.size
            rcases hc3 with h | h <;> omega
          clear hE7 hp7 hR7 hc3 hE78 hE8
          have q1 := cell_of (j := 0) (v := .int .i64 3) H7.out.2.2.1 rfl
          have q2 := cell_of (j := 1) (v := .slice ro 18 cap') H7.out.2.2.1 rfl
          have k0 := cell_of (j := 0) (v := .int .i64 y.what) (HB.out W8 H7.out.2.2.2.2.1).2.1 rfl
          have k1 := cell_of (j := 1) (v := .int .i64 y.many) (HB.out W8 H7.out.2.2.2.2.1).2.1 rfl
          have k2 := cell_of (j := 2) (v := .slice y.bo y.n y.cap) (HB.out W8 H7.out.2.2.2.2.1).2.1 rfl
          go_wp2_with fail
          clear q1 q2 k0 k1 k2 hW8
          refine (al_act c mb 3 18 S ro cap' y W8 (by omega) (by omega) (by omega) H7.out.1 H7.out.2.1 (cntB_le S6.out.cnt (by have := HJ.out.1; have := HJ.out.2.1; omega)) S6.out.ins HP.out.2.2.2.2.2.1
            (fun w' hE' => HP.out.2.2.2.1.ext ((H0.out.1.trans H7.out.2.2.2.2.1).trans' hE' (fun q hq => .inr (by have := HN.out; have := H0.out.2.2.2; simp at hq; omega))))).mono ?_
          rintro e w9 ⟨c4, mb4, ro4, cap4, rfl, hE9, hp9, hR9, hc4⟩
          clear hc4
          obtain ⟨S3, hS3⟩ : ∃ S3, actN S 3 18 y.what y.many (lst y.L y.n) = S3 := ⟨_, rfl⟩
          rw [hS3] at hp9 hR9
          clear hS3
          obtain ⟨W10, hW10⟩ : ∃ W10, w9.alloc (.cells #[.int .i64 3, .slice ro4 18 cap4] 56) = W10 := ⟨_, rfl⟩
          have HC : Hid (CpSt w3 W10 c3 mb3 c4 mb4 w7.heap.size w9.heap.size g bb bs bw mb S S2 S3 ro ro3 ro4 cap' cap3 cap4) := by
            have hn := HN.out
            obtain ⟨u1, u2, u3, u4, u5, u6, u7, u8, u9, u10, u11⟩ := H7.out
            have hEE : Ext [] w9 W10 := by rw [← hW10]; exact (Ext.refl _ _).alloc _
            have hEc : Ext [c] W8 W10 := hE9.then hEE
            have := H6.out.1.size
            exact ⟨u7.ext hEc (by simpa using u10) (by simpa using u7.2.apart u1.1), hp9.ext hEE (by simp) (by simp), (u8.apartP u1.1 hE9).ext0 hEE, hR9.ext0 hEE, hEc.at u9 (by simp; omega), by rw [← hW10]; exact World.alloc_heap_new _ _, (u2.apartP u1.1 hE9).ext0 hEE, hEc.at u3 (by simp; omega),
              u4.ext hEc (by simp; omega) (by simp; omega) (by simp; omega) (by simp; omega), u5.trans' hEc (fun q hq => .inr (by simp at hq; omega)), hEc.at u6 (by simp; omega)⟩
          clear hE9 hp9 hR9 H7
          have q1 := cell_of (j := 0) (v := .int .i64 3) HC.out.h15 rfl
          have q2 := cell_of (j := 1) (v := .slice ro3 18 cap3) HC.out.h15 rfl
          have q3 := cell_of (j := 0) (v := .int .i64 3) HC.out.h17 rfl
          have q4 := cell_of (j := 1) (v := .slice ro4 18 cap4) HC.out.h17 rfl
          go_wp2_with fail
          clear hW10
          refine (rf_Same 3 ro3 ro4 18 cap3 cap4 S2 S3 W10 (by omega) (by omega) (by omega) HC.out.r3 HC.out.r4).mono ?_
          rintro e w11 ⟨rfl, hE11⟩
          have hcm := sameB_comm S3 S2 3 18
          have HSM : Hid (∀ W a b, CpSt w3 W c3 mb3 c4 mb4 a b g bb bs bw mb S S2 S3 ro ro3 ro4 cap' cap3 cap4 → Calls Try.prog 30 #[.pointer (some ⟨c3, 0, none⟩), .pointer (some ⟨c4, 0, none⟩)] W (fun e w' => e = .returned (.bool (sameB S2 S3 3 18)) ∧ Ext [] W w') ∧
              Calls Try.prog 30 #[.pointer (some ⟨c4, 0, none⟩), .pointer (some ⟨c3, 0, none⟩)] W (fun e w' => e = .returned (.bool (sameB S2 S3 3 18)) ∧ Ext [] W w')) := by
            intro W a b hC
            refine ⟨al_Same c3 c4 mb3 mb4 3 18 S2 S3 W (by omega) (by omega) hC.p3 hC.p4, ?_⟩
            rw [← hcm]
            exact al_Same c4 c3 mb4 mb3 3 18 S3 S2 W (by omega) (by omega) hC.p4 hC.p3
          clear hcm
          generalize sameB S2 S3 3 18 = sb at *
          have hsb : (sb != sb) = false := by simp
          have C11 := Lib.hid (HC.out.ext1 hE11)
          have q1 := hE11.cell q1 (by simp)
          have q2 := hE11.cell q2 (by simp)
          have q3 := hE11.cell q3 (by simp)
          have q4 := hE11.cell q4 (by simp)
          clear hE11
          go_wp2_with fail
          refine (al_num _ _).mono ?_
          rintro e w' ⟨rfl, rfl⟩
          go_wp2_with fail
          refine (al_is c3 mb3 3 18 S2 ro3 cap3 w11 (by omega) (by omega) (by omega) C11.out.p3 C11.out.r3).mono ?_
          rintro e w12 ⟨rfl, hE12⟩
          have q3 := hE12.cell q3 (by simp)
          have q4 := hE12.cell q4 (by simp)
          have C12 := Lib.hid (C11.out.ext1 hE12)
          clear hE12
          go_wp2_with fail
          refine (al_is c4 mb4 3 18 S3 ro4 cap4 w12 (by omega) (by omega) (by omega) C12.out.p4 C12.out.r4).mono ?_
          rintro e w13 ⟨rfl, hE13⟩
          have C13 := Lib.hid (C12.out.ext1 hE13)
          clear hE13
          go_wp2_with fail
          refine (HSM.out _ _ _ C13.out).1.mono ?_
          rintro e w14 ⟨rfl, hE14⟩
          have C14 := Lib.hid (C13.out.ext1 hE14)
          clear hE14
          go_wp2_with fail
          refine (HSM.out _ _ _ C14.out).2.mono ?_
          rintro e w15 ⟨rfl, hE15⟩
          have C15 := Lib.hid (C14.out.ext1 hE15)
          clear hE15
          have q1 := cell_of (j := 0) (v := .int .i64 3) C15.out.want rfl
          have q2 := cell_of (j := 1) (v := .slice ro 18 cap') C15.out.want rfl
          go_wp2_with fail
          refine (rf_Those 3 ro 18 cap' S true w15 (by omega) (by omega) (by omega) C15.out.row).mono ?_
          rintro e w16 ⟨v, rfl, hO, hE16⟩
          obtain ⟨ao2, cap2, rfl, hI2, hN2⟩ := ints_of_owns hO
          have C16 := Lib.hid (C15.out.ext1 hE16)
          clear hO q1 q2 hE16
          have hml := thoseL_le S true 3 18
          have HG : Hid (∀ i : Nat, i < 18 → (S (3 + (i : Int))).1 = true → (selL (fun k => (S k).1) 3 i).length < (thoseL S true 3 18).length ∧ (thoseL S true 3 18).getD (selL (fun k => (S k).1) 3 i).length 0 = 3 + (i : Int)) := by
            intro i hi hs
            rw [← sel_taken]
            exact ⟨selL_lt hi hs, selL_getD (sel := fun k => (S k).1) hi hs⟩
          have HD : Hid ((selL (fun k => (S k).1) 3 18).length = (thoseL S true 3 18).length) := by unfold Hid; rw [sel_taken]
          generalize thoseL S true 3 18 = ks at *
          generalize hm : ks.length = m at *
          have heq := eqfn 106 #[.pointer (some ⟨bb, 0, none⟩), .pointer (some ⟨bs, 0, none⟩)]
          have HM0 := Lib.hid (And.intro hm (And.intro hml (And.intro hI2 hN2)))
          clear hm hml hI2 hN2
          go_wp2
          obtain ⟨hm, hml, hI2, hN2⟩ := HM0.out
          clear HM0
          obtain ⟨hb20, hb21, hs3⟩ := al2_heap (w := w16) #[.slice ao2 m cap2] #[.int .i64 0] 43 3
          obtain ⟨W17, hW17⟩ : ∃ W17, (w16.alloc (.cells #[.slice ao2 m cap2] 43)).alloc (.cells #[.int .i64 0] 3) = W17 := ⟨_, rfl⟩
          rw [hW17] at hb20 hb21 hs3
          try rw [hW17]
          have hE17 : Ext [] w16 W17 := by rw [← hW17]; exact ((Ext.refl _ _).alloc _).alloc _
          have C17 := Lib.hid (C16.out.ext1 hE17)
          have H17 := Lib.hid (And.intro (hI2.ext hE17) (And.intro hb20 (And.intro hb21 (And.intro hs3 (And.intro hI2 (And.intro hE17 hN2))))))
          have HM := Lib.hid (And.intro hm hml)
          clear hI2 hN2 hm hml hb20 hb21 hs3 hE17 hW17
          obtain ⟨nb, hnb⟩ : ∃ nb, nb = w16.heap.size + 1 := ⟨_, rfl⟩
          rw [← hnb]
          have HNB : Hid (nb = w16.heap.size + 1 ∧ W17.heap.size = w16.heap.size + 2 ∧ w3.heap.size < w16.heap.size ∧ bb < w16.heap.size ∧ bs < w16.heap.size ∧ bw < w16.heap.size ∧ mb < w16.heap.size ∧ w3.heap.size = w.heap.size + 3) :=
            ⟨hnb, H17.out.2.2.2.1, lt_of_block C16.out.res, lt_of_block C16.out.lines.b, lt_of_block C16.out.lines.s, lt_of_block C16.out.lines.x, C16.out.lines.l.lt, H0.out.2.2.2⟩
          have hb21 : W17.heap[nb]? = some (.cells #[.int .i64 0] 3 (0, 0)) := by rw [hnb]; exact H17.out.2.2.1
          have HB21 := Lib.hid hb21
          clear hnb hb21 heq hsb
          have hmm := HM.out
          refine wpIn_wide.1 (wp_range (gf := 106) (lb := #[.pointer (some ⟨bb, 0, none⟩), .pointer (some ⟨bs, 0, none⟩)]) rfl (fun args w => enters_of Try.func106 (by kernel_rfl) rfl args w)
            (lines_seq bb bs bw mb 3 18 S (by omega) (by omega)) (fun pre x h => by obtain ⟨i, _, _, _, rfl⟩ := okL_last h; rfl) [nb]
            (CntGo W17 nb 3 many) (CntEnd W17 nb 3 m 2 many) ?_ ?_ ?_ ?_ ?_ ?_ ?_ ?_)
          · exact CntGo.steady (Nat.le_refl _)
          · exact CntEnd.steady (Nat.le_refl _)
          · rintro mm pre W ⟨_, hE, _⟩
            have hn := HNB.out
            exact (C17.out.lines.ext hE (by simp; omega) (by simp; omega) (by simp; omega) (by simp; omega)).kb
          · intro j hj
            have hn := HNB.out
            simp at hj
            omega
          · exact CntGo.start HB21.out
          · rintro l mm pre x W hl hgo hok
            have HGO := Lib.hid hgo
            obtain ⟨rfl, hE, hnb, _⟩ := hgo
            obtain ⟨i, hi, hsl, rfl, rfl⟩ := okL_last hok
            have HQ0 := Lib.hid (encI_len (selL (fun k => (S k).1) 3 i))
            rw [encI_len] at hnb
            obtain ⟨hqm, hgd⟩ := HG.out i hi hsl
            generalize hq : (selL (fun k => (S k).1) 3 i).length = q at *
            generalize hkk : 3 + (i : Int) = kk at *
            obtain ⟨b, off, rfl, hr⟩ : ∃ b off, ao2 = some ⟨b, off, none⟩ ∧ W.cell? ⟨b, off + q, none⟩ = some (.int .i64 kk) := by
              rcases H17.out.2.2.2.2.1 with h | ⟨b, off, h1, h2⟩
              · omega
              · have h3 : w16.cell? ⟨b, off + q, none⟩ = some (.int .i64 kk) := by rw [← hgd]; exact h2 q hqm
                have hlb : b < w16.heap.size := World.block_lt_of_cell? _ _ h3
                have hn := HNB.out
                exact ⟨b, off, h1, hE.cell (H17.out.2.2.2.2.2.1.cell h3 (by simp)) (by simp; omega)⟩
            have hn := HNB.out
            have k5 := hE.cell (cell_of (j := 0) (v := .slice (some ⟨b, off, none⟩) m cap2) H17.out.2.1 rfl) (by simp; omega)
            have k7 := hE.cell (cell_of (j := 0) (v := .int .i64 many) (HB.out W17 C17.out.ext).2.2 rfl) (by simp; omega)
            have HE := Lib.hid (And.intro hE hnb)
            clear hE hnb hok hsl hgd hkk hq hn
            intro K hK
            gi_wp2
            refine hK _ W (Ext.refl [] _) ?_
            intro W' hC
            clear hK K
            have bn := hC.block _ _ HE.out.2 (.inr rfl)
            have r5 := (Steady.cell (N := W17.heap.size)) W W' k5 hC
            have r6 := (Steady.cell (N := W17.heap.size)) W W' hr hC
            have r7 := (Steady.cell (N := W17.heap.size)) W W' k7 hC
            have k6 := cell_of (j := 0) (v := .int .i64 q) bn rfl
            have f6 := free_of bn 0
            have HN2 := Lib.hid bn
            have HCA := Lib.hid hC
            have hn := HNB.out
            have HQ := Lib.hid (And.intro hqm (And.intro hi hn))
            have HG' := Lib.hid (CntGo.steady (Nat.le_refl _) _ _ _ _ HGO.out hC)
            have hge : ¬ ((m : Int) ≤ (q : Int)) := by omega
            have hi0 : (0 : Int) ≤ (q : Int) := by omega
            have hi1 : (q : Int) < (m : Int) := by omega
            have hne : (kk != kk) = false := by simp
            have hw : wrap64 ((q : Int) + 1) = (q : Int) + 1 := IntWalk.wrap64_in _ (by omega)
            have hn1 : ¬ (w.heap.size + 1 + 1 = nb) := by omega
            have hn2 : ¬ (w16.heap.size = nb) := by omega
            clear bn hC k5 k7 hr hl hn hqm hi hmm
            by_cases hend : many ≤ (q : Int) + 1
            · gi_wp2
              exact ⟨(Ext.refl _ W').setCell (.inl (by simp)) _, CntGo.stop HG'.out HQ0.out hend HQ.out.1⟩
            · gi_wp2
              exact ⟨(Ext.refl _ W').setCell (.inl (by simp)) _, CntGo.step HG'.out HQ0.out (by omega)⟩
          all_goals
            first
              | (rintro D mm xs W hD hx hgo hdD
                 have HV := Lib.hid (hgo.done (m := m) (by rw [show xs = encI (selL (fun k => (S k).1) 3 18) from hx, encI_len, HD.out]))
                 clear hx hgo)
              | (rintro D cc W hD hce hdD
                 obtain ⟨rfl, hcd⟩ := hce.done
                 have HV := Lib.hid hcd
                 clear hce hcd
                 refine wpIn_exit ?_)
            obtain ⟨v, hE, hnb, hv⟩ := HV.out
            have hn := HNB.out
            have k6 := cell_of (j := 0) (v := .int .i64 v) hnb rfl
            have k5 := hE.cell (cell_of (j := 0) (v := .slice ao2 m cap2) H17.out.2.1 rfl) (by simp; omega)
            have k7 := hE.cell (cell_of (j := 0) (v := .int .i64 many) (HB.out W17 C17.out.ext).2.2 rfl) (by simp; omega)
            have hres := hE.at C17.out.res (by simp; omega)
            have hEw : Ext [] w W := (H0.out.1.trans C17.out.ext).trans' hE (fun q hq => .inr (by simp at hq; omega))
            have hvb : ((v : Int) == min (m : Int) (max 1 many)) = true := by simpa using hv
            have HZ := Lib.hid (And.intro hres (And.intro hEw (And.intro hdD hD)))
            clear hE hnb hv hn hres hEw hdD hD HV hmm
            go_wp2_with fail
            refine (HW.out _).mono ?_
            rintro e w18 ⟨rfl, hE18⟩
            have hb18 := hE18.at HZ.out.1 (by simp)
            rw [H0.out.2.2.2] at hb18
            have k18 := cell_of (j := 0) (v := .bool false) hb18 rfl
            have f18 := free_of hb18 0
            have H18 := Lib.hid (And.intro (HZ.out.2.1.trans hE18) (And.intro hb18 (hE18.at HZ.out.2.2.1 (by simp))))
            clear hE18 hb18
            go_wp2
            show LeavesInM _ _ _ _ _ _ _ _ _
            refine fin.out [D] w18 (.bool false) (fun D1 hD1 => ?_) (by simp) H18.out.2.1 H18.out.1 _ ?_
            · obtain rfl : D1 = D := by simpa using hD1
              exact ⟨H18.out.2.2, by have := HNB.out; have := HZ.out.2.2.2; omega⟩
            · rfl
end Go.Proofs.Ytgpoplnfhlfogaa
