/- The document's clock: Thread, Pin, Unpin, Advance. -/
import Derived.Test.YtgpoplnfhlfogaaEpN
import Derived.Test.YtgpoplnfhlfogaaRes
import Derived.Test.YtgpoplnfhlfogaaOr4
import Derived.Deep.LoopGhost
namespace Go.Proofs.Ytgpoplnfhlfogaa
open Go Go.RowKit Go.Shelf
attribute [local go_sem] Oper.semAt_some

/-- does v point to the start of a block of 9 cells? -/
def rowOk (w : World) (v : Value) : Bool :=
  match v with
  | .pointer (some ⟨g, 0, none⟩) => match w.heap[g]? with
    | some (.cells cs _ (0, 0)) => cs.size == 9
    | _ => false
  | _ => false
/-- what lies in the block that v points to -/
def rowVal (w : World) (v : Value) : Value :=
  match v with
  | .pointer (some ⟨g, 0, none⟩) => match w.heap[g]? with
    | some (.cells cs _ _) => .agg cs
    | _ => undef
  | _ => undef
theorem row_of {w : World} {g : Nat} {now : Int} {F : Nat → Int} {t : TypeId} (h : w.heap[g]? = some (.cells (refC now F) t (0, 0))) :
    rowOk w (.pointer (some ⟨g, 0, none⟩)) = true ∧ rowVal w (.pointer (some ⟨g, 0, none⟩)) = .agg (refC now F) := by
  unfold rowOk rowVal
  simp [h]
  rfl
theorem szC : (Try.prog.info? 92).map (·.size) = some 9 := by kernel_rfl
theorem wp_loadC {dst : Option Tmp} {x : Operand} {ty : TypeId} {pos : String} {aft : Array Edge} {gd : Option (Nat × Bool)} {a : Act} {w : World} {K : Act → World → Prop} {Q : Exit → Act → World → Prop}
    (h : rowOk w (a.eval x) = true) :
    Oper.wp Try.prog { dst := dst, op := .load 92 x, type := ty, pos := pos, after := aft, guard := gd } a w K Q = K (a.put dst (rowVal w (a.eval x))) w := by
  generalize hv : a.eval x = v at *
  unfold rowOk at h
  split at h
  · rename_i g
    split at h
    · rename_i cs t hg
      have hs : cs.size = 9 := by simpa using h
      have hr : rowVal w (.pointer (some ⟨g, 0, none⟩)) = .agg cs := by unfold rowVal; simp [hg]
      rw [hr]
      unfold Oper.wp
      simp only [execOp, hv, Instr.loadAt, Instr.sureAddr, Sem.run_bind, Sem.run_pure, Result.andThen_ok]
      rw [run_loadVar_row w g t 92 cs (0, 0) _ hg Try.underlying92 rfl (by rw [hs]; exact szC)]
      rfl
    · cases h
  · cases h
/-- where v points to; its cells -/
def rowB : Value → Nat | .pointer (some ⟨g, _, _⟩) => g | _ => 0
def rowCs : Value → Array Value | .agg cs => cs | _ => #[]
def aggOk : Value → Bool | .agg cs => cs.size == 9 && cs.toList.all (·.oneCell') | _ => false
theorem aggOk_ref (now : Int) (F : Nat → Int) : aggOk (.agg (refC now F)) = true := rfl
theorem rowB_ptr (g o : Nat) (s) : rowB (.pointer (some ⟨g, o, s⟩)) = g := rfl
theorem rowCs_agg (cs : Array Value) : rowCs (.agg cs) = cs := rfl
theorem wp_storeC {dst : Option Tmp} {x y : Operand} {ty : TypeId} {pos : String} {aft : Array Edge} {gd : Option (Nat × Bool)} {a : Act} {w : World} {K : Act → World → Prop} {Q : Exit → Act → World → Prop}
    (h : rowOk w (a.eval x) = true) (hy : aggOk (a.eval y) = true) :
    Oper.wp Try.prog { dst := dst, op := .store 92 x y, type := ty, pos := pos, after := aft, guard := gd } a w K Q = K (a.put dst undef) (w.setRow (rowB (a.eval x)) (rowCs (a.eval y))) := by
  generalize hv : a.eval x = v at *
  generalize hu : a.eval y = u at *
  unfold rowOk at h
  unfold aggOk at hy
  split at h
  · rename_i g
    split at h
    · rename_i cs t hg
      split at hy
      · rename_i cs'
        have hs : cs.size = 9 := by simpa using h
        have hy' : cs'.size = 9 ∧ ∀ v ∈ cs'.toList, v.oneCell' = true := by
          obtain ⟨e1, e2⟩ := Bool.and_eq_true_iff.1 hy
          exact ⟨by simpa using e1, List.all_eq_true.1 e2⟩
        rw [rowB_ptr, rowCs_agg]
        unfold Oper.wp
        simp only [execOp, hv, hu, Instr.storeAt, Instr.sureAddr, Sem.run_bind, Sem.run_pure, Result.andThen_ok, run_storerow w g t 92 cs cs' hg (by rw [hy'.1]; exact szC) (by rw [hy'.1, hs]) hy'.2]
        rfl
      · cases hy
    · cases h
  · cases h
theorem rowOk_drew (w : World) (v : Value) : rowOk w.drew v = rowOk w v := rfl
theorem rowVal_drew (w : World) (v : Value) : rowVal w.drew v = rowVal w v := rfl
attribute [local go_sem ↓] wp_loadC wp_storeC
attribute [local go_sem] rowB_ptr rowCs_agg aggOk_ref rowOk_drew rowVal_drew

theorem refC0 : (#[.int .i64 0, .int .i64 0, .int .i64 0, .int .i64 0, .int .i64 0, .int .i64 0, .int .i64 0, .int .i64 0, .int .i64 0] : Array Value) = refC 0 (fun _ => 0) := rfl
theorem setRow_ref {w : World} {g : Nat} {now now' : Int} {F F' : Nat → Int} {t : TypeId} (h : w.heap[g]? = some (.cells (refC now F) t (0, 0))) : (w.setRow g (refC now' F')).heap[g]? = some (.cells (refC now' F') t (0, 0)) :=
  setRow_heap w g _ _ t (0, 0) h
theorem setPin_ref {w : World} {g i : Nat} {now v : Int} {F : Nat → Int} {t : TypeId} (h : w.heap[g]? = some (.cells (refC now F) t (0, 0))) (hi : i < 8) : (w.setCell ⟨g, 1 + i, none⟩ (.int .i64 v)).heap[g]? = some (.cells (refC now (fun k => if k = i then v else F k)) t (0, 0)) := by
  rw [← refC_set now F i hi v]
  simp only [World.setCell, Array.getElem?_modify, if_true, h]; rfl
theorem setNow_ref {w : World} {g : Nat} {now v : Int} {F : Nat → Int} {t : TypeId} (h : w.heap[g]? = some (.cells (refC now F) t (0, 0))) : (w.setCell ⟨g, 0, none⟩ (.int .i64 v)).heap[g]? = some (.cells (refC v F) t (0, 0)) := by
  rw [← refC_set0 now F v]
  simp only [World.setCell, Array.getElem?_modify, if_true, h]; rfl
def thrB (n : Int) : Bool := decide (0 ≤ n) && decide (n < 8)
set_option maxHeartbeats 400000 in
theorem rf_Thread (n : Int) (w : World) : Calls Try.prog 101 #[.int .i64 n] w fun e w' => e = .returned (.bool (thrB n)) ∧ w = w' := by
  unfold thrB
  by_cases h : 0 ≤ n
  · have hd : decide (0 ≤ n) = true := by simpa using h
    go_enter Try.func101, Try.ntmps101
    go_wp2
    go_ret
    exact ⟨ret_bool (by rw [hd]; simp), rfl⟩
  · have hd : decide (0 ≤ n) = false := by simpa using h
    go_enter Try.func101, Try.ntmps101
    go_wp2
    go_ret
    exact ⟨ret_bool (by first | rfl | (rw [hd]; rfl)), rfl⟩
theorem two_new {w : World} (now : Int) (F : Nat → Int) : ∃ W, (w.alloc (.cells (refC now F) 92)).alloc (.cells (refC 0 fun _ => 0) 92) = W ∧ Ext [] w W ∧ W.heap[w.heap.size]? = some (.cells (refC now F) 92 (0, 0)) ∧ W.heap[w.heap.size + 1]? = some (.cells (refC 0 fun _ => 0) 92 (0, 0)) := by
  obtain ⟨h1, h2, _⟩ := al2_heap (w := w) (refC now F) (refC 0 fun _ => 0) 92 92
  exact ⟨_, rfl, ((Ext.refl _ _).alloc _).alloc _, h1, h2⟩

set_option maxRecDepth 100000 in
set_option maxHeartbeats 4000000 in
theorem rf_Pin_out (now n : Int) (F : Nat → Int) (w : World) (h : thrB n = false) :
    Calls Try.prog 98 #[.agg (refC now F), .int .i64 n] w fun e w' => e = .returned (.tuple #[.agg (refC now F), .int .i64 0, .int .i64 2]) ∧ Ext [] w w' := by
  obtain ⟨W, hW, hE, hb1, hb2⟩ := two_new (w := w) now F
  have HT := Lib.hid (fun W => rf_Thread n W)
  rw [h] at HT
  obtain ⟨r1, r2⟩ := row_of hb1
  obtain ⟨r3, _⟩ := row_of hb2
  have H := Lib.hid (And.intro hE (And.intro hb1 hb2))
  clear hE hb1 hb2
  go_enter Try.func98, Try.ntmps98
  go_wp2_with fail
  rw [refC0, hW]
  clear hW
  refine (HT.out _).mono ?_
  rintro e w' ⟨rfl, rfl⟩
  go_wp2
  refine bodyPost_ret (results_act Try.results98 _ _ (w.heap.size + 1) _ (refC now F) _ _ _ _ rfl (setRow_ref H.out.2.2) rfl rfl Try.underlying92 rfl szC) rfl ?_
  exact ⟨rfl, ext_setRow H.out.1 (.inr (by simp)) _⟩
set_option maxRecDepth 100000 in
set_option maxHeartbeats 4000000 in
theorem rf_Unpin_out (now n : Int) (F : Nat → Int) (w : World) (h : thrB n = false) :
    Calls Try.prog 99 #[.agg (refC now F), .int .i64 n] w fun e w' => e = .returned (.tuple #[.agg (refC now F), .int .i64 2]) ∧ Ext [] w w' := by
  obtain ⟨W, hW, hE, hb1, hb2⟩ := two_new (w := w) now F
  have HT := Lib.hid (fun W => rf_Thread n W)
  rw [h] at HT
  obtain ⟨r1, r2⟩ := row_of hb1
  obtain ⟨r3, _⟩ := row_of hb2
  have H := Lib.hid (And.intro hE (And.intro hb1 hb2))
  clear hE hb1 hb2
  go_enter Try.func99, Try.ntmps99
  go_wp2_with fail
  rw [refC0, hW]
  clear hW
  refine (HT.out _).mono ?_
  rintro e w' ⟨rfl, rfl⟩
  go_wp2
  refine bodyPost_ret (results_ca Try.results99 _ _ (w.heap.size + 1) _ (refC now F) _ _ _ rfl (setRow_ref H.out.2.2) rfl Try.underlying92 rfl szC) rfl ?_
  exact ⟨rfl, ext_setRow H.out.1 (.inr (by simp)) _⟩
set_option maxRecDepth 100000 in
set_option maxHeartbeats 4000000 in
theorem rf_Pin_was (now n : Int) (F : Nat → Int) (w : World) (h : thrB n = true) (hp : 0 < F n.toNat) :
    Calls Try.prog 98 #[.agg (refC now F), .int .i64 n] w fun e w' => e = .returned (.tuple #[.agg (refC now F), .int .i64 0, .int .i64 240]) ∧ Ext [] w w' := by
  obtain ⟨i, hi, rfl⟩ : ∃ i : Nat, i < 8 ∧ n = (i : Int) := ⟨n.toNat, by unfold thrB at h; simp at h; omega, by unfold thrB at h; simp at h; omega⟩
  have hi0 : (0 : Int) ≤ (i : Int) := by omega
  have hi8 : (i : Int) < 8 := by omega
  rw [show (i : Int).toNat = i from rfl] at hp
  obtain ⟨W, hW, hE, hb1, hb2⟩ := two_new (w := w) now F
  have HT := Lib.hid (fun W => rf_Thread i W)
  rw [h] at HT
  obtain ⟨r1, r2⟩ := row_of hb1
  obtain ⟨r3, _⟩ := row_of hb2
  have p1 := cell_of (j := 1 + i) hb1 (refC_get now F i hi)
  have H := Lib.hid (And.intro hE (And.intro hb1 hb2))
  clear hE hb1 hb2
  go_enter Try.func98, Try.ntmps98
  go_wp2_with fail
  rw [refC0, hW]
  clear hW
  refine (HT.out _).mono ?_
  rintro e w' ⟨rfl, rfl⟩
  go_wp2
  refine bodyPost_ret (results_act Try.results98 _ _ (w.heap.size + 1) _ (refC now F) _ _ _ _ rfl (setRow_ref H.out.2.2) rfl rfl Try.underlying92 rfl szC) rfl ?_
  exact ⟨rfl, ext_setRow H.out.1 (.inr (by simp)) _⟩
set_option maxRecDepth 100000 in
set_option maxHeartbeats 4000000 in
theorem rf_Unpin_was (now n : Int) (F : Nat → Int) (w : World) (h : thrB n = true) (hp : F n.toNat = 0) :
    Calls Try.prog 99 #[.agg (refC now F), .int .i64 n] w fun e w' => e = .returned (.tuple #[.agg (refC now F), .int .i64 5]) ∧ Ext [] w w' := by
  obtain ⟨i, hi, rfl⟩ : ∃ i : Nat, i < 8 ∧ n = (i : Int) := ⟨n.toNat, by unfold thrB at h; simp at h; omega, by unfold thrB at h; simp at h; omega⟩
  have hi0 : (0 : Int) ≤ (i : Int) := by omega
  have hi8 : (i : Int) < 8 := by omega
  rw [show (i : Int).toNat = i from rfl] at hp
  obtain ⟨W, hW, hE, hb1, hb2⟩ := two_new (w := w) now F
  have HT := Lib.hid (fun W => rf_Thread i W)
  rw [h] at HT
  obtain ⟨r1, r2⟩ := row_of hb1
  obtain ⟨r3, _⟩ := row_of hb2
  have p1 := cell_of (j := 1 + i) hb1 (refC_get now F i hi)
  rw [hp] at p1
  have H := Lib.hid (And.intro hE (And.intro hb1 hb2))
  clear hE hb1 hb2
  go_enter Try.func99, Try.ntmps99
  go_wp2_with fail
  rw [refC0, hW]
  clear hW
  refine (HT.out _).mono ?_
  rintro e w' ⟨rfl, rfl⟩
  go_wp2
  refine bodyPost_ret (results_ca Try.results99 _ _ (w.heap.size + 1) _ (refC now F) _ _ _ rfl (setRow_ref H.out.2.2) rfl Try.underlying92 rfl szC) rfl ?_
  exact ⟨rfl, ext_setRow H.out.1 (.inr (by simp)) _⟩
set_option maxRecDepth 100000 in
set_option maxHeartbeats 4000000 in
theorem rf_Unpin_ok (now n : Int) (F : Nat → Int) (w : World) (h : thrB n = true) (hp : F n.toNat ≠ 0) :
    Calls Try.prog 99 #[.agg (refC now F), .int .i64 n] w fun e w' => e = .returned (.tuple #[.agg (refC now (fun k => if k = n.toNat then 0 else F k)), .int .i64 0]) ∧ Ext [] w w' := by
  obtain ⟨i, hi, rfl⟩ : ∃ i : Nat, i < 8 ∧ n = (i : Int) := ⟨n.toNat, by unfold thrB at h; simp at h; omega, by unfold thrB at h; simp at h; omega⟩
  have hi0 : (0 : Int) ≤ (i : Int) := by omega
  have hi8 : (i : Int) < 8 := by omega
  rw [show (i : Int).toNat = i from rfl] at hp ⊢
  have hpb : (F i == 0) = false := by simpa using hp
  obtain ⟨W, hW, hE, hb1, hb2⟩ := two_new (w := w) now F
  have HT := Lib.hid (fun W => rf_Thread i W)
  rw [h] at HT
  have p1 := cell_of (j := 1 + i) hb1 (refC_get now F i hi)
  obtain ⟨w1, hw1⟩ : ∃ w1, W.setCell ⟨w.heap.size, 1 + i, none⟩ (.int .i64 0) = w1 := ⟨_, rfl⟩
  have hE1 : Ext [w.heap.size] W w1 := by rw [← hw1]; exact (Ext.refl _ _).setCell (.inl (by simp)) _
  have hb3 : w1.heap[w.heap.size]? = some (.cells (refC now (fun k => if k = i then 0 else F k)) 92 (0, 0)) := by rw [← hw1]; exact setPin_ref hb1 hi
  have hb4 := hE1.at hb2 (by simp)
  obtain ⟨r1, r2⟩ := row_of hb3
  obtain ⟨r3, _⟩ := row_of hb4
  have f1 := free_of hb1 (1 + i)
  have p2 := cell_of (j := 0) (v := .int .i64 now) hb3 rfl
  have p3 := cell_of (j := 0) (v := .int .i64 now) hb1 rfl
  have H := Lib.hid (And.intro (hE.trans' hE1 (fun j hj => .inr (by simp at hj; omega))) (And.intro hb3 hb4))
  clear hE hb1 hb2 hE1 hb3 hb4
  go_enter Try.func99, Try.ntmps99
  go_wp2_with fail
  rw [refC0, hW]
  clear hW
  refine (HT.out _).mono ?_
  rintro e w' ⟨rfl, rfl⟩
  go_upto_region 6 with fail
  try rw [hw1]
  clear hw1
  go_wp2
  refine bodyPost_ret (results_ca Try.results99 _ _ (w.heap.size + 1) _ (refC now (fun k => if k = i then 0 else F k)) _ _ _ rfl (setRow_ref H.out.2.2) rfl Try.underlying92 rfl szC) rfl ?_
  exact ⟨rfl, ext_setRow H.out.1 (.inr (by simp)) _⟩
set_option maxRecDepth 100000 in
set_option maxHeartbeats 4000000 in
theorem rf_Pin_ok (now n : Int) (F : Nat → Int) (w : World) (h : thrB n = true) (hp : F n.toNat = 0) (h0 : 0 ≤ now) (h1 : now ≤ 1073741824) :
    Calls Try.prog 98 #[.agg (refC now F), .int .i64 n] w fun e w' => e = .returned (.tuple #[.agg (refC now (fun k => if k = n.toNat then now + 1 else F k)), .int .i64 now, .int .i64 0]) ∧ Ext [] w w' := by
  obtain ⟨i, hi, rfl⟩ : ∃ i : Nat, i < 8 ∧ n = (i : Int) := ⟨n.toNat, by unfold thrB at h; simp at h; omega, by unfold thrB at h; simp at h; omega⟩
  have hi0 : (0 : Int) ≤ (i : Int) := by omega
  have hi8 : (i : Int) < 8 := by omega
  rw [show (i : Int).toNat = i from rfl] at hp ⊢
  have hwn : wrap64 (now + 1) = now + 1 := IntWalk.wrap64_in _ (by omega)
  obtain ⟨W, hW, hE, hb1, hb2⟩ := two_new (w := w) now F
  have HT := Lib.hid (fun W => rf_Thread i W)
  rw [h] at HT
  have p1 := cell_of (j := 1 + i) hb1 (refC_get now F i hi)
  rw [hp] at p1
  obtain ⟨w1, hw1⟩ : ∃ w1, W.setCell ⟨w.heap.size, 1 + i, none⟩ (.int .i64 (now + 1)) = w1 := ⟨_, rfl⟩
  have hE1 : Ext [w.heap.size] W w1 := by rw [← hw1]; exact (Ext.refl _ _).setCell (.inl (by simp)) _
  have hb3 : w1.heap[w.heap.size]? = some (.cells (refC now (fun k => if k = i then (now + 1) else F k)) 92 (0, 0)) := by rw [← hw1]; exact setPin_ref hb1 hi
  have hb4 := hE1.at hb2 (by simp)
  obtain ⟨r1, r2⟩ := row_of hb3
  obtain ⟨r3, _⟩ := row_of hb4
  have f1 := free_of hb1 (1 + i)
  have p2 := cell_of (j := 0) (v := .int .i64 now) hb3 rfl
  have p3 := cell_of (j := 0) (v := .int .i64 now) hb1 rfl
  have p5 : (w1.drew.setRow (w.heap.size + 1) (refC now (fun k => if k = i then now + 1 else F k))).cell? ⟨w.heap.size, 0, none⟩ = some (.int .i64 now) :=
    cell_of (j := 0) ((ext_setRow (m := [w.heap.size + 1]) (Ext.refl _ w1.drew) (.inl (by simp)) _).at (show w1.drew.heap[w.heap.size]? = _ from hb3) (by simp)) rfl
  have H := Lib.hid (And.intro (hE.trans' hE1 (fun j hj => .inr (by simp at hj; omega))) (And.intro hb3 hb4))
  clear hE hb1 hb2 hE1 hb3 hb4
  go_enter Try.func98, Try.ntmps98
  go_wp2_with fail
  rw [refC0, hW]
  clear hW
  refine (HT.out _).mono ?_
  rintro e w' ⟨rfl, rfl⟩
  go_upto_region 6 with fail
  try rw [hw1]
  clear hw1
  go_region
  all_goals go_wp2
  all_goals
    refine bodyPost_ret (results_act Try.results98 _ _ (w.heap.size + 1) _ (refC now (fun k => if k = i then now + 1 else F k)) _ _ _ _ rfl (by first | exact setRow_ref H.out.2.2 | exact setRow_ref (w := World.drew _) H.out.2.2) rfl rfl Try.underlying92 rfl szC) rfl ?_
    exact ⟨rfl, by first | exact ext_setRow H.out.1 (.inr (by simp)) _ | exact ext_setRow (Ext.drew H.out.1) (.inr (by simp)) _⟩
end Go.Proofs.Ytgpoplnfhlfogaa
