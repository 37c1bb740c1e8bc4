/- The law's act: a call by both (printed by wip/mkEpU.py). -/
import Derived.Test.YtgpoplnfhlfogaaEpT
namespace Go.Proofs.Ytgpoplnfhlfogaa
open Go Go.RowKit Go.Shelf
attribute [local go_sem] Oper.semAt_some
attribute [local go_sem ↓] wp_loadC wp_storeC
attribute [local go_sem] rowB_ptr rowCs_agg aggOk_ref rowOk_drew rowVal_drew rowOk_drewN rowVal_drewN

theorem exec_loadC {ev : Operand → Value} {dst : Option Tmp} {x : Operand} {ty : TypeId} {pos : String} {aft : Array Edge} {gd : Option (Nat × Bool)} {w : World} (h : rowOk w (ev x) = true) :
    (execOp ev { dst := dst, op := .load 92 x, type := ty, pos := pos, after := aft, guard := gd }).run Try.prog w = .ok (.value (rowVal w (ev x))) w := by
  generalize hv : ev x = v at *
  unfold rowOk at h
  split at h
  · rename_i g
    split at h
    · rename_i cs t hg
      have hs : cs.size = 9 := by simpa using h
      have hr : rowVal w (.pointer (some ⟨g, 0, none⟩)) = .agg cs := by unfold rowVal; simp [hg]
      rw [hr]
      simp only [execOp, hv, Instr.loadAt, Instr.sureAddr, Sem.run_bind, Sem.run_pure, Result.andThen_ok]
      rw [run_loadVar_row w g t 92 cs (0, 0) _ hg Try.underlying92 rfl (by rw [hs]; exact szC)]
      rfl
    · cases h
  · cases h
attribute [local go_sem ↓] exec_loadC
theorem row_zero (w : World) : rowOk (w.alloc (.cells #[.int .i64 0, .int .i64 0, .int .i64 0, .int .i64 0, .int .i64 0, .int .i64 0, .int .i64 0, .int .i64 0, .int .i64 0] 92)) (.pointer (some ⟨w.heap.size, 0, none⟩)) = true := (row_of (now := 0) (F := fun _ => 0) (World.alloc_heap_new w (.cells #[.int .i64 0, .int .i64 0, .int .i64 0, .int .i64 0, .int .i64 0, .int .i64 0, .int .i64 0, .int .i64 0, .int .i64 0] 92))).1
theorem act_new (w : World) (now : Int) (F : Nat → Int) (a b : Int) : ∃ W, ((w.alloc (.cells (refC now F) 92)).alloc (.cells #[.int .i64 a, .int .i64 b] 30)).alloc (.cells #[.int .i64 0, .int .i64 0, .int .i64 0, .int .i64 0, .int .i64 0, .int .i64 0, .int .i64 0, .int .i64 0, .int .i64 0] 92) = W ∧ Ext [] w W ∧
    W.heap[w.heap.size]? = some (.cells (refC now F) 92 (0, 0)) ∧ W.heap[w.heap.size + 1]? = some (.cells #[.int .i64 a, .int .i64 b] 30 (0, 0)) ∧ W.heap[w.heap.size + 2]? = some (.cells (refC 0 fun _ => 0) 92 (0, 0)) := by
  obtain ⟨h1, h2, h3, _⟩ := al3_heap (w := w) (refC now F) #[.int .i64 a, .int .i64 b] (refC 0 fun _ => 0) 92 30 92
  exact ⟨_, rfl, ((Ext.refl _ _).alloc _ |>.alloc _).alloc _, h1, h2, h3⟩
/-- what act leaves -/
def ActR (w : World) (c m : Nat) (n' : Int) (l' : Ents) (F' : Nat → Int) (e : Ending) (w' : World) : Prop :=
  ∃ c' m', e = .returned (.tuple #[.pointer (some ⟨c', 0, none⟩), .agg (refC n' F'), .bool true]) ∧ Ext [c, m] w w' ∧ Clk w' c' m' n' l' ∧ ((c' = c ∧ m' = m) ∨ (w.heap.size ≤ c' ∧ w.heap.size ≤ m'))

set_option maxRecDepth 100000 in
set_option maxHeartbeats 4000000 in
theorem act_pin (c m : Nat) (now t : Int) (l l' : Ents) (F F' : Nat → Int) (a er : Int) (w : World) (h : Clk w c m now l)
    (hr : ∀ W, Clk W c m now l → Calls Try.prog 15 #[.pointer (some ⟨c, 0, none⟩), .int .i64 t] W fun e w' => e = .returned (.tuple #[.int .i64 a, .int .i64 er]) ∧ Ext [m] W w' ∧ Clk w' c m now l')
    (hd : ∀ W, Calls Try.prog 98 #[.agg (refC now F), .int .i64 t] W fun e w' => e = .returned (.tuple #[.agg (refC now F'), .int .i64 a, .int .i64 er]) ∧ Ext [] W w') :
    Calls Try.prog 52 #[.pointer (some ⟨c, 0, none⟩), .agg (refC now F), .agg #[.int .i64 0, .int .i64 t]] w (ActR w c m now l' F') := by
  obtain ⟨W, hW, hE, hb1, hb2, hb3⟩ := act_new w now F 0 t
  obtain ⟨b7, hb7⟩ : ∃ b7, w.heap.size + 2 = b7 := ⟨_, rfl⟩
  have hclk := h.ext hE (by simp) (by simp)
  have hcl : c < w.heap.size ∧ m < w.heap.size := ⟨lt_of_block h.1, h.2.lt⟩
  have k0 := cell_of (j := 0) (v := .int .i64 0) hb2 rfl
  have k1 := cell_of (j := 1) (v := .int .i64 t) hb2 rfl
  rw [hb7] at hb3
  have H := Lib.hid (And.intro hE (And.intro hb1 (And.intro hb2 (And.intro hb3 (And.intro hclk (And.intro hcl hb7))))))
  clear hE hb1 hb2 hb3 hclk hcl h
  have HR0 := Lib.hid hr
  have HD0 := Lib.hid hd
  have he1 : (a == a) = true := beq_self_eq_true a
  have he2 : (er == er) = true := beq_self_eq_true er
  clear hr hd
  go_enter Try.func52, Try.ntmps52
  go_wp2_with fail
  try rw [hW]
  try simp only [Nat.add_assoc, Nat.reduceAdd]
  try rw [hb7]
  clear hW
  refine (HR0.out _ H.out.2.2.2.2.1).mono ?_
  rintro e W1 ⟨rfl, hE1, hc1⟩
  have hcl := H.out.2.2.2.2.2.1
  have hbz := H.out.2.2.2.2.2.2
  have hc1b := hE1.at H.out.2.1 (by simp; omega)
  have hc2b := hE1.at H.out.2.2.1 (by simp; omega)
  have hc3b := hE1.at H.out.2.2.2.1 (by simp; omega)
  obtain ⟨r1, r2⟩ := row_of hc1b
  have k1 := cell_of (j := 1) (v := .int .i64 t) hc2b rfl
  have H1 := Lib.hid (And.intro (H.out.1.wide.trans hE1) (And.intro hc3b hc1))
  clear hE1 hc1 hc1b hc2b hc3b hcl hbz
  go_wp2_with fail
  refine (HD0.out _).mono ?_
  rintro e W2 ⟨rfl, hE2⟩
  have rz := row_zero W2
  clear r1 r2 k0 k1
  go_upto_region 5 with fail
  obtain ⟨b11, hb11⟩ : ∃ b, W2.heap.size = b := ⟨_, rfl⟩
  obtain ⟨W3, hW3⟩ : ∃ W3, (W2.alloc (.cells #[.int .i64 0, .int .i64 0, .int .i64 0, .int .i64 0, .int .i64 0, .int .i64 0, .int .i64 0, .int .i64 0, .int .i64 0] 92)).setRow b11 (refC now F') = W3 := ⟨_, rfl⟩
  have HW3 : Hid (Ext [] W2 W3 ∧ W3.heap[b11]? = some (.cells (refC now F') 92 (0, 0))) := by
    rw [← hW3, ← hb11]
    exact ⟨ext_setRow ((Ext.refl _ _).alloc _) (.inr (Nat.le_refl _)) _, setRow_ref (now := 0) (F := fun _ => 0) (World.alloc_heap_new W2 (.cells #[.int .i64 0, .int .i64 0, .int .i64 0, .int .i64 0, .int .i64 0, .int .i64 0, .int .i64 0, .int .i64 0, .int .i64 0] 92))⟩
  try rw [hb11]
  try rw [hW3]
  have hb73 := (hE2.trans HW3.out.1).at H1.out.2.1 (by simp)
  have hlt7 := lt_of_block hb73
  have H3 := Lib.hid (And.intro (H1.out.1.then (hE2.trans HW3.out.1)) (And.intro (H1.out.2.2.ext (hE2.trans HW3.out.1) (by simp) (by simp)) hb73))
  have hne : b11 ≠ b7 := by
    have := lt_of_block H1.out.2.1
    have := hE2.size
    omega
  have HR : Hid (∀ X, Ext [b7] W3 X → rowOk X (.pointer (some ⟨b11, 0, none⟩)) = true ∧ rowVal X (.pointer (some ⟨b11, 0, none⟩)) = .agg (refC now F')) := fun X hX => row_of (hX.at HW3.out.2 (by simp; exact hne))
  obtain ⟨r3, _⟩ := row_of (show W3.drew.heap[b7]? = _ from hb73)
  clear hE2 hb73 hlt7 hne hW3 rz
  refine wp_mono (Q := Exit.then _ (NoPanic _)) ?_ then_np'
  refine wp_region_p4 [] (hds4 [0, 1, 2, 3, 4, 5, 6, 8] (.tl 7 (hds4 [9, 10] (tls4 [11, 12, 13] .done)))) (Ext [b7] W3) (by kernel_rfl) (by kernel_rfl) (fun _ d _ _ _ h => by cases d <;> exact h) (Ext.refl _ _).drew ?_
  repeat (first
    | (refine wpPl_no4 rfl (by rfl) ?_; simp only [Act.put, List.setIfInBounds_toArray, List.set_cons_zero, List.set_cons_succ])
    | (refine wpPl_hd4 ?_ rfl (by rfl) (fun w hSw => ?_) ?_
       rotate_left
       · (obtain ⟨g1, g2⟩ := HR.out _ hSw; clear hSw; go_simp; first | exact ⟨rfl, rfl⟩ | exact rfl)
       simp only [Act.put, List.setIfInBounds_toArray, List.set_cons_zero, List.set_cons_succ]))
  refine wpPl_tl4 rfl (by rfl) (fun K hK => ?_)
  go_simp
  go_at_call 19
  refine (num14 _ _).mono ?_
  rintro e w' ⟨rfl, rfl⟩
  refine hK _ _ (fun _ => (Ext.refl _ _).drew) ?_
  clear hK K
  try simp only [Act.put, List.setIfInBounds_toArray, List.set_cons_zero, List.set_cons_succ]
  repeat (first
    | (refine wpPl_no4 rfl (by rfl) ?_; simp only [Act.put, List.setIfInBounds_toArray, List.set_cons_zero, List.set_cons_succ])
    | (refine wpPl_hd4 ?_ rfl (by rfl) (fun w hSw => ?_) ?_
       rotate_left
       · (obtain ⟨g1, g2⟩ := HR.out _ hSw; clear hSw; go_simp; first | exact ⟨rfl, rfl⟩ | exact rfl)
       simp only [Act.put, List.setIfInBounds_toArray, List.set_cons_zero, List.set_cons_succ]))
  refine wpPl_tl4 rfl (by rfl) (fun K hK => ?_)
  go_simp
  refine hK _ _ (fun _ => (Ext.refl _ _).drew) ?_
  clear hK K
  try simp only [Act.put, List.setIfInBounds_toArray, List.set_cons_zero, List.set_cons_succ]
  refine wpPl_tl4 rfl (by rfl) (fun K hK => ?_)
  go_simp
  refine hK _ _ (fun _ => ext_setRow (Ext.refl _ _).drew (.inl (by simp)) _) ?_
  clear hK K
  try simp only [Act.put, List.setIfInBounds_toArray, List.set_cons_zero, List.set_cons_succ]
  refine wpPl_tl4 rfl (by rfl) (fun K hK => ?_)
  go_simp
  refine hK _ _ (fun _ => ext_setRow (Ext.refl _ _).drew (.inl (by simp)) _) ?_
  clear hK K
  try simp only [Act.put, List.setIfInBounds_toArray, List.set_cons_zero, List.set_cons_succ]
  refine wpPl_done4 ?_
  go_wp2
  have hcl := H.out.2.2.2.2.2.1
  have hbz := H.out.2.2.2.2.2.2
  have hEf : Ext [b7] W3 (W3.drew.setRow b7 (refC now F')) := ext_setRow (Ext.refl _ _).drew (.inl (by simp)) _
  refine bodyPost_ret (results_tct Try.results52 _ _ b7 _ (refC now F') _ _ _ _ rfl rfl (setRow_ref (w := W3.drew) H3.out.2.2) rfl Try.underlying92 rfl szC) rfl ?_
  exact ⟨c, m, rfl, (H3.out.1.sub (fun j hj => by simp at hj; simp [hj])).trans' hEf (fun j hj => .inr (by simp at hj; omega)), H3.out.2.1.ext hEf (by simp; omega) (by simp; omega), .inl ⟨rfl, rfl⟩⟩

set_option maxRecDepth 100000 in
set_option maxHeartbeats 4000000 in
theorem act_unpin (c m : Nat) (now t : Int) (l l' : Ents) (F F' : Nat → Int) (er : Int) (w : World) (h : Clk w c m now l)
    (hr : ∀ W, Clk W c m now l → Calls Try.prog 16 #[.pointer (some ⟨c, 0, none⟩), .int .i64 t] W fun e w' => e = .returned (.int .i64 er) ∧ Ext [m] W w' ∧ Clk w' c m now l')
    (hd : ∀ W, Calls Try.prog 99 #[.agg (refC now F), .int .i64 t] W fun e w' => e = .returned (.tuple #[.agg (refC now F'), .int .i64 er]) ∧ Ext [] W w') :
    Calls Try.prog 52 #[.pointer (some ⟨c, 0, none⟩), .agg (refC now F), .agg #[.int .i64 1, .int .i64 t]] w (ActR w c m now l' F') := by
  obtain ⟨W, hW, hE, hb1, hb2, hb3⟩ := act_new w now F 1 t
  obtain ⟨b7, hb7⟩ : ∃ b7, w.heap.size + 2 = b7 := ⟨_, rfl⟩
  have hclk := h.ext hE (by simp) (by simp)
  have hcl : c < w.heap.size ∧ m < w.heap.size := ⟨lt_of_block h.1, h.2.lt⟩
  have k0 := cell_of (j := 0) (v := .int .i64 1) hb2 rfl
  have k1 := cell_of (j := 1) (v := .int .i64 t) hb2 rfl
  rw [hb7] at hb3
  have H := Lib.hid (And.intro hE (And.intro hb1 (And.intro hb2 (And.intro hb3 (And.intro hclk (And.intro hcl hb7))))))
  clear hE hb1 hb2 hb3 hclk hcl h
  have HR0 := Lib.hid hr
  have HD0 := Lib.hid hd
  have he2 : (er == er) = true := beq_self_eq_true er
  clear hr hd
  go_enter Try.func52, Try.ntmps52
  go_wp2_with fail
  try rw [hW]
  try simp only [Nat.add_assoc, Nat.reduceAdd]
  try rw [hb7]
  clear hW
  refine (HR0.out _ H.out.2.2.2.2.1).mono ?_
  rintro e W1 ⟨rfl, hE1, hc1⟩
  have hcl := H.out.2.2.2.2.2.1
  have hbz := H.out.2.2.2.2.2.2
  have hc1b := hE1.at H.out.2.1 (by simp; omega)
  have hc2b := hE1.at H.out.2.2.1 (by simp; omega)
  have hc3b := hE1.at H.out.2.2.2.1 (by simp; omega)
  obtain ⟨r1, r2⟩ := row_of hc1b
  have k1 := cell_of (j := 1) (v := .int .i64 t) hc2b rfl
  have H1 := Lib.hid (And.intro (H.out.1.wide.trans hE1) (And.intro hc3b hc1))
  clear hE1 hc1 hc1b hc2b hc3b hcl hbz
  go_wp2_with fail
  refine (HD0.out _).mono ?_
  rintro e W2 ⟨rfl, hE2⟩
  have rz := row_zero W2
  clear r1 r2 k0 k1
  go_upto_region 9 with fail
  obtain ⟨b11, hb11⟩ : ∃ b, W2.heap.size = b := ⟨_, rfl⟩
  obtain ⟨W3, hW3⟩ : ∃ W3, (W2.alloc (.cells #[.int .i64 0, .int .i64 0, .int .i64 0, .int .i64 0, .int .i64 0, .int .i64 0, .int .i64 0, .int .i64 0, .int .i64 0] 92)).setRow b11 (refC now F') = W3 := ⟨_, rfl⟩
  have HW3 : Hid (Ext [] W2 W3 ∧ W3.heap[b11]? = some (.cells (refC now F') 92 (0, 0))) := by
    rw [← hW3, ← hb11]
    exact ⟨ext_setRow ((Ext.refl _ _).alloc _) (.inr (Nat.le_refl _)) _, setRow_ref (now := 0) (F := fun _ => 0) (World.alloc_heap_new W2 (.cells #[.int .i64 0, .int .i64 0, .int .i64 0, .int .i64 0, .int .i64 0, .int .i64 0, .int .i64 0, .int .i64 0, .int .i64 0] 92))⟩
  try rw [hb11]
  try rw [hW3]
  have hb73 := (hE2.trans HW3.out.1).at H1.out.2.1 (by simp)
  have hlt7 := lt_of_block hb73
  have H3 := Lib.hid (And.intro (H1.out.1.then (hE2.trans HW3.out.1)) (And.intro (H1.out.2.2.ext (hE2.trans HW3.out.1) (by simp) (by simp)) hb73))
  have hne : b11 ≠ b7 := by
    have := lt_of_block H1.out.2.1
    have := hE2.size
    omega
  have HR : Hid (∀ X, Ext [b7] W3 X → rowOk X (.pointer (some ⟨b11, 0, none⟩)) = true ∧ rowVal X (.pointer (some ⟨b11, 0, none⟩)) = .agg (refC now F')) := fun X hX => row_of (hX.at HW3.out.2 (by simp; exact hne))
  obtain ⟨r3, _⟩ := row_of (show W3.drew.heap[b7]? = _ from hb73)
  clear hE2 hb73 hlt7 hne hW3 rz
  refine wp_mono (Q := Exit.then _ (NoPanic _)) ?_ then_np'
  refine wp_region_p4 [] (hds4 [0, 1, 2, 4] (.tl 3 (hds4 [5] (tls4 [6, 7, 8] .done)))) (Ext [b7] W3) (by kernel_rfl) (by kernel_rfl) (fun _ d _ _ _ h => by cases d <;> exact h) (Ext.refl _ _).drew ?_
  repeat (first
    | (refine wpPl_no4 rfl (by rfl) ?_; simp only [Act.put, List.setIfInBounds_toArray, List.set_cons_zero, List.set_cons_succ])
    | (refine wpPl_hd4 ?_ rfl (by rfl) (fun w hSw => ?_) ?_
       rotate_left
       · (obtain ⟨g1, g2⟩ := HR.out _ hSw; clear hSw; go_simp; first | exact ⟨rfl, rfl⟩ | exact rfl)
       simp only [Act.put, List.setIfInBounds_toArray, List.set_cons_zero, List.set_cons_succ]))
  refine wpPl_tl4 rfl (by rfl) (fun K hK => ?_)
  go_simp
  go_at_call 19
  refine (num14 _ _).mono ?_
  rintro e w' ⟨rfl, rfl⟩
  refine hK _ _ (fun _ => (Ext.refl _ _).drew) ?_
  clear hK K
  try simp only [Act.put, List.setIfInBounds_toArray, List.set_cons_zero, List.set_cons_succ]
  repeat (first
    | (refine wpPl_no4 rfl (by rfl) ?_; simp only [Act.put, List.setIfInBounds_toArray, List.set_cons_zero, List.set_cons_succ])
    | (refine wpPl_hd4 ?_ rfl (by rfl) (fun w hSw => ?_) ?_
       rotate_left
       · (obtain ⟨g1, g2⟩ := HR.out _ hSw; clear hSw; go_simp; first | exact ⟨rfl, rfl⟩ | exact rfl)
       simp only [Act.put, List.setIfInBounds_toArray, List.set_cons_zero, List.set_cons_succ]))
  refine wpPl_tl4 rfl (by rfl) (fun K hK => ?_)
  go_simp
  refine hK _ _ (fun _ => (Ext.refl _ _).drew) ?_
  clear hK K
  try simp only [Act.put, List.setIfInBounds_toArray, List.set_cons_zero, List.set_cons_succ]
  refine wpPl_tl4 rfl (by rfl) (fun K hK => ?_)
  go_simp
  refine hK _ _ (fun _ => ext_setRow (Ext.refl _ _).drew (.inl (by simp)) _) ?_
  clear hK K
  try simp only [Act.put, List.setIfInBounds_toArray, List.set_cons_zero, List.set_cons_succ]
  refine wpPl_tl4 rfl (by rfl) (fun K hK => ?_)
  go_simp
  refine hK _ _ (fun _ => ext_setRow (Ext.refl _ _).drew (.inl (by simp)) _) ?_
  clear hK K
  try simp only [Act.put, List.setIfInBounds_toArray, List.set_cons_zero, List.set_cons_succ]
  refine wpPl_done4 ?_
  go_wp2
  have hcl := H.out.2.2.2.2.2.1
  have hbz := H.out.2.2.2.2.2.2
  have hEf : Ext [b7] W3 (W3.drew.setRow b7 (refC now F')) := ext_setRow (Ext.refl _ _).drew (.inl (by simp)) _
  refine bodyPost_ret (results_tct Try.results52 _ _ b7 _ (refC now F') _ _ _ _ rfl rfl (setRow_ref (w := W3.drew) H3.out.2.2) rfl Try.underlying92 rfl szC) rfl ?_
  exact ⟨c, m, rfl, (H3.out.1.sub (fun j hj => by simp at hj; simp [hj])).trans' hEf (fun j hj => .inr (by simp at hj; omega)), H3.out.2.1.ext hEf (by simp; omega) (by simp; omega), .inl ⟨rfl, rfl⟩⟩

set_option maxRecDepth 100000 in
set_option maxHeartbeats 4000000 in
theorem act_adv (c m : Nat) (now n' t : Int) (l l' : Ents) (F F' : Nat → Int) (a : Bool) (w : World) (h : Clk w c m now l)
    (hr : ∀ W, Clk W c m now l → Calls Try.prog 17 #[.pointer (some ⟨c, 0, none⟩)] W fun e w' => e = .returned (.tuple #[.bool a, .int .i64 0]) ∧ Ext [c] W w' ∧ Clk w' c m n' l')
    (hd : ∀ W, Calls Try.prog 100 #[.agg (refC now F)] W fun e w' => e = .returned (.tuple #[.agg (refC n' F'), .bool a]) ∧ Ext [] W w') :
    Calls Try.prog 52 #[.pointer (some ⟨c, 0, none⟩), .agg (refC now F), .agg #[.int .i64 2, .int .i64 t]] w (ActR w c m n' l' F') := by
  obtain ⟨W, hW, hE, hb1, hb2, hb3⟩ := act_new w now F 2 t
  obtain ⟨b7, hb7⟩ : ∃ b7, w.heap.size + 2 = b7 := ⟨_, rfl⟩
  have hclk := h.ext hE (by simp) (by simp)
  have hcl : c < w.heap.size ∧ m < w.heap.size := ⟨lt_of_block h.1, h.2.lt⟩
  have k0 := cell_of (j := 0) (v := .int .i64 2) hb2 rfl
  have k1 := cell_of (j := 1) (v := .int .i64 t) hb2 rfl
  rw [hb7] at hb3
  have H := Lib.hid (And.intro hE (And.intro hb1 (And.intro hb2 (And.intro hb3 (And.intro hclk (And.intro hcl hb7))))))
  clear hE hb1 hb2 hb3 hclk hcl h
  have HR0 := Lib.hid hr
  have HD0 := Lib.hid hd
  have he1 : (a == a) = true := beq_self_eq_true a
  clear hr hd
  go_enter Try.func52, Try.ntmps52
  go_wp2_with fail
  try rw [hW]
  try simp only [Nat.add_assoc, Nat.reduceAdd]
  try rw [hb7]
  clear hW
  refine (HR0.out _ H.out.2.2.2.2.1).mono ?_
  rintro e W1 ⟨rfl, hE1, hc1⟩
  have hcl := H.out.2.2.2.2.2.1
  have hbz := H.out.2.2.2.2.2.2
  have hc1b := hE1.at H.out.2.1 (by simp; omega)
  have hc2b := hE1.at H.out.2.2.1 (by simp; omega)
  have hc3b := hE1.at H.out.2.2.2.1 (by simp; omega)
  obtain ⟨r1, r2⟩ := row_of hc1b
  have k1 := cell_of (j := 1) (v := .int .i64 t) hc2b rfl
  have H1 := Lib.hid (And.intro (H.out.1.wide.trans hE1) (And.intro hc3b hc1))
  clear hE1 hc1 hc1b hc2b hc3b hcl hbz
  go_wp2_with fail
  refine (HD0.out _).mono ?_
  rintro e W2 ⟨rfl, hE2⟩
  have rz := row_zero W2
  clear r1 r2 k0 k1
  go_upto_region 13 with fail
  obtain ⟨b11, hb11⟩ : ∃ b, W2.heap.size = b := ⟨_, rfl⟩
  obtain ⟨W3, hW3⟩ : ∃ W3, (W2.alloc (.cells #[.int .i64 0, .int .i64 0, .int .i64 0, .int .i64 0, .int .i64 0, .int .i64 0, .int .i64 0, .int .i64 0, .int .i64 0] 92)).setRow b11 (refC n' F') = W3 := ⟨_, rfl⟩
  have HW3 : Hid (Ext [] W2 W3 ∧ W3.heap[b11]? = some (.cells (refC n' F') 92 (0, 0))) := by
    rw [← hW3, ← hb11]
    exact ⟨ext_setRow ((Ext.refl _ _).alloc _) (.inr (Nat.le_refl _)) _, setRow_ref (now := 0) (F := fun _ => 0) (World.alloc_heap_new W2 (.cells #[.int .i64 0, .int .i64 0, .int .i64 0, .int .i64 0, .int .i64 0, .int .i64 0, .int .i64 0, .int .i64 0, .int .i64 0] 92))⟩
  try rw [hb11]
  try rw [hW3]
  have hb73 := (hE2.trans HW3.out.1).at H1.out.2.1 (by simp)
  have hlt7 := lt_of_block hb73
  have H3 := Lib.hid (And.intro (H1.out.1.then (hE2.trans HW3.out.1)) (And.intro (H1.out.2.2.ext (hE2.trans HW3.out.1) (by simp) (by simp)) hb73))
  have hne : b11 ≠ b7 := by
    have := lt_of_block H1.out.2.1
    have := hE2.size
    omega
  have HR : Hid (∀ X, Ext [b7] W3 X → rowOk X (.pointer (some ⟨b11, 0, none⟩)) = true ∧ rowVal X (.pointer (some ⟨b11, 0, none⟩)) = .agg (refC n' F')) := fun X hX => row_of (hX.at HW3.out.2 (by simp; exact hne))
  obtain ⟨r3, _⟩ := row_of (show W3.drew.heap[b7]? = _ from hb73)
  clear hE2 hb73 hlt7 hne hW3 rz
  refine wp_mono (Q := Exit.then _ (NoPanic _)) ?_ then_np'
  refine wp_region_p4 [] (hds4 [0, 1, 2, 3, 4, 5, 6] (.tl 7 (hds4 [8, 9] (tls4 [10, 11, 12] .done)))) (Ext [b7] W3) (by kernel_rfl) (by kernel_rfl) (fun _ d _ _ _ h => by cases d <;> exact h) (Ext.refl _ _).drew ?_
  repeat (first
    | (refine wpPl_no4 rfl (by rfl) ?_; simp only [Act.put, List.setIfInBounds_toArray, List.set_cons_zero, List.set_cons_succ])
    | (refine wpPl_hd4 ?_ rfl (by rfl) (fun w hSw => ?_) ?_
       rotate_left
       · (obtain ⟨g1, g2⟩ := HR.out _ hSw; clear hSw; go_simp; first | exact ⟨rfl, rfl⟩ | exact rfl)
       simp only [Act.put, List.setIfInBounds_toArray, List.set_cons_zero, List.set_cons_succ]))
  refine wpPl_tl4 rfl (by rfl) (fun K hK => ?_)
  go_simp
  go_at_call 19
  refine (num14 _ _).mono ?_
  rintro e w' ⟨rfl, rfl⟩
  refine hK _ _ (fun _ => (Ext.refl _ _).drew) ?_
  clear hK K
  try simp only [Act.put, List.setIfInBounds_toArray, List.set_cons_zero, List.set_cons_succ]
  repeat (first
    | (refine wpPl_no4 rfl (by rfl) ?_; simp only [Act.put, List.setIfInBounds_toArray, List.set_cons_zero, List.set_cons_succ])
    | (refine wpPl_hd4 ?_ rfl (by rfl) (fun w hSw => ?_) ?_
       rotate_left
       · (obtain ⟨g1, g2⟩ := HR.out _ hSw; clear hSw; go_simp; first | exact ⟨rfl, rfl⟩ | exact rfl)
       simp only [Act.put, List.setIfInBounds_toArray, List.set_cons_zero, List.set_cons_succ]))
  refine wpPl_tl4 rfl (by rfl) (fun K hK => ?_)
  go_simp
  refine hK _ _ (fun _ => (Ext.refl _ _).drew) ?_
  clear hK K
  try simp only [Act.put, List.setIfInBounds_toArray, List.set_cons_zero, List.set_cons_succ]
  refine wpPl_tl4 rfl (by rfl) (fun K hK => ?_)
  go_simp
  refine hK _ _ (fun _ => ext_setRow (Ext.refl _ _).drew (.inl (by simp)) _) ?_
  clear hK K
  try simp only [Act.put, List.setIfInBounds_toArray, List.set_cons_zero, List.set_cons_succ]
  refine wpPl_tl4 rfl (by rfl) (fun K hK => ?_)
  go_simp
  refine hK _ _ (fun _ => ext_setRow (Ext.refl _ _).drew (.inl (by simp)) _) ?_
  clear hK K
  try simp only [Act.put, List.setIfInBounds_toArray, List.set_cons_zero, List.set_cons_succ]
  refine wpPl_done4 ?_
  go_wp2
  have hcl := H.out.2.2.2.2.2.1
  have hbz := H.out.2.2.2.2.2.2
  have hEf : Ext [b7] W3 (W3.drew.setRow b7 (refC n' F')) := ext_setRow (Ext.refl _ _).drew (.inl (by simp)) _
  refine bodyPost_ret (results_tct Try.results52 _ _ b7 _ (refC n' F') _ _ _ _ rfl rfl (setRow_ref (w := W3.drew) H3.out.2.2) rfl Try.underlying92 rfl szC) rfl ?_
  exact ⟨c, m, rfl, (H3.out.1.sub (fun j hj => by simp at hj; simp [hj])).trans' hEf (fun j hj => .inr (by simp at hj; omega)), H3.out.2.1.ext hEf (by simp; omega) (by simp; omega), .inl ⟨rfl, rfl⟩⟩

set_option maxRecDepth 100000 in
set_option maxHeartbeats 4000000 in
theorem act_copy (c m : Nat) (now what t : Int) (l : Ents) (F : Nat → Int) (w : World) (h : Clk w c m now l) (w0 : what ≠ 0) (w1 : what ≠ 1) (w2 : what ≠ 2) :
    Calls Try.prog 52 #[.pointer (some ⟨c, 0, none⟩), .agg (refC now F), .agg #[.int .i64 what, .int .i64 t]] w (ActR w c m now l F) := by
  obtain ⟨W, hW, hE, hb1, hb2, hb3⟩ := act_new w now F what t
  obtain ⟨b7, hb7⟩ : ∃ b7, w.heap.size + 2 = b7 := ⟨_, rfl⟩
  have hclk := h.ext hE (by simp) (by simp)
  have k0 := cell_of (j := 0) (v := .int .i64 what) hb2 rfl
  have k1 := cell_of (j := 1) (v := .int .i64 t) hb2 rfl
  rw [hb7] at hb3
  obtain ⟨r3, _⟩ := row_of (show W.drew.heap[b7]? = _ from hb3)
  have HR : Hid (∀ X, Ext [b7] W X → rowOk X (.pointer (some ⟨w.heap.size, 0, none⟩)) = true ∧ rowVal X (.pointer (some ⟨w.heap.size, 0, none⟩)) = .agg (refC now F)) := fun X hX => row_of (hX.at hb1 (by simp; omega))
  have H := Lib.hid (And.intro hE (And.intro hb3 (And.intro hclk hb7)))
  have e0 : (what == 0) = false := by simpa using w0
  have e1 : (what == 1) = false := by simpa using w1
  have e2 : (what == 2) = false := by simpa using w2
  clear hE hb1 hb2 hb3 hclk h w0 w1 w2
  go_enter Try.func52, Try.ntmps52
  go_upto_region 14 with fail
  try rw [hW]
  try simp only [Nat.add_assoc, Nat.reduceAdd]
  try rw [hb7]
  clear hW e0 e1 e2
  refine wp_mono (Q := Exit.then _ (NoPanic _)) ?_ then_np'
  refine wp_region_p4 [] (hds4 [0, 2] (.tl 1 (tls4 [3, 4, 5] .done))) (Ext [b7] W) (by kernel_rfl) (by kernel_rfl) (fun _ d _ _ _ h => by cases d <;> exact h) (Ext.refl _ _).drew ?_
  repeat (first
    | (refine wpPl_no4 rfl (by rfl) ?_; simp only [Act.put, List.setIfInBounds_toArray, List.set_cons_zero, List.set_cons_succ])
    | (refine wpPl_hd4 ?_ rfl (by rfl) (fun w hSw => ?_) ?_
       rotate_left
       · (obtain ⟨g1, g2⟩ := HR.out _ hSw; clear hSw; go_simp; first | exact ⟨rfl, rfl⟩ | exact rfl)
       simp only [Act.put, List.setIfInBounds_toArray, List.set_cons_zero, List.set_cons_succ]))
  refine wpPl_tl4 rfl (by rfl) (fun K hK => ?_)
  go_simp
  go_at_call 55
  refine (ep_Copy c m now l _ (H.out.2.2.1.ext (Ext.refl [] _).drew (by simp) (by simp))).mono ?_
  rintro e W5 ⟨c', m', rfl, hE5, hc5, hc', hm'⟩
  have hE5' : Ext [] W W5 := (Ext.refl [] W).drew.trans hE5
  have hb5 := hE5'.at H.out.2.1 (by simp)
  obtain ⟨r4, _⟩ := row_of hb5
  have H5 := Lib.hid (And.intro hE5' (And.intro hb5 (And.intro hc5 (And.intro hc' hm'))))
  refine hK _ _ (fun _ => H5.out.1.wide) ?_
  clear hK K hE5 hE5' hb5 hc5 hc' hm' r3
  try simp only [Act.put, List.setIfInBounds_toArray, List.set_cons_zero, List.set_cons_succ]
  refine wpPl_tl4 rfl (by rfl) (fun K hK => ?_)
  go_simp
  refine hK _ _ (fun _ => H5.out.1.wide) ?_
  clear hK K
  try simp only [Act.put, List.setIfInBounds_toArray, List.set_cons_zero, List.set_cons_succ]
  refine wpPl_tl4 rfl (by rfl) (fun K hK => ?_)
  go_simp
  refine hK _ _ (fun _ => ext_setRow H5.out.1.wide (.inl (by simp)) _) ?_
  clear hK K
  try simp only [Act.put, List.setIfInBounds_toArray, List.set_cons_zero, List.set_cons_succ]
  refine wpPl_tl4 rfl (by rfl) (fun K hK => ?_)
  go_simp
  refine hK _ _ (fun _ => ext_setRow H5.out.1.wide (.inl (by simp)) _) ?_
  clear hK K
  try simp only [Act.put, List.setIfInBounds_toArray, List.set_cons_zero, List.set_cons_succ]
  refine wpPl_done4 ?_
  go_wp2
  have hbz := H.out.2.2.2
  have hEf : Ext [b7] W5 (W5.setRow b7 (refC now F)) := ext_setRow (Ext.refl _ _) (.inl (by simp)) _
  have hb7w := lt_of_block H.out.2.1
  have hWz : W.drew.heap.size = W.heap.size := rfl
  refine bodyPost_ret (results_tct Try.results52 _ _ b7 _ (refC now F) _ _ _ _ rfl rfl (setRow_ref H5.out.2.1) rfl Try.underlying92 rfl szC) rfl ?_
  have hs := H.out.1.size
  obtain ⟨q1, q2⟩ := H5.out.2.2.2
  rw [hWz] at q1 q2
  exact ⟨c', m', rfl, ((H.out.1.trans H5.out.1).wide).trans' hEf (fun j hj => .inr (by simp at hj; omega)), H5.out.2.2.1.ext hEf (by simp; omega) (by simp; omega), .inr ⟨by omega, by omega⟩⟩

def actN (what now : Int) (l : Ents) : Int := if what = 2 ∧ advOk now l = true then now + 1 else now
def actL (what t now : Int) (l : Ents) : Ents := if what = 0 ∧ pinErr l t = 0 then upd l t (.int .i64 now) else if what = 1 ∧ unpinErr l t = 0 then del l t else l
theorem actN_le (what now : Int) (l : Ents) : now ≤ actN what now l ∧ actN what now l ≤ now + 1 := by unfold actN; split <;> omega
theorem unpinErr_thr {l : Ents} {t : Int} (ht : unpinErr l t = 0) : 0 ≤ t ∧ t < 8 := by
  unfold unpinErr at ht
  by_cases hr : t < 0 ∨ 8 ≤ t
  · rw [if_pos hr] at ht; cases ht
  · omega
theorem COk.act {now : Int} {l : Ents} (h : COk now l) (what t : Int) : COk (actN what now l) (actL what t now l) := by
  unfold actN actL
  by_cases h0 : what = 0 ∧ pinErr l t = 0
  · rw [if_pos h0, if_neg (by omega)]
    exact h.pin (pinErr_thr h0.2)
  · rw [if_neg h0]
    by_cases h1 : what = 1 ∧ unpinErr l t = 0
    · rw [if_pos h1, if_neg (by omega)]
      exact h.unpin t
    · rw [if_neg h1]
      split
      · exact h.up
      · exact h
theorem thr_iff (t : Int) : thrB t = true ↔ 0 ≤ t ∧ t < 8 := by unfold thrB; simp
theorem pinF_upd (l : Ents) {t : Int} (a : Int) (ht : 0 ≤ t) : pinN (upd l t (.int .i64 a)) = fun k => if k = t.toNat then a + 1 else pinN l k := by
  funext k
  rw [pinN_upd]
  by_cases h : (k : Int) = t
  · rw [if_pos h, if_pos (by omega)]
  · rw [if_neg h, if_neg (by omega)]
theorem pinF_del {l : Ents} (hn : (keysOf l).Nodup) {t : Int} (ht : 0 ≤ t) : pinN (del l t) = fun k => if k = t.toNat then 0 else pinN l k := by
  funext k
  rw [pinN_del hn]
  by_cases h : (k : Int) = t
  · rw [if_pos h, if_pos (by omega)]
  · rw [if_neg h, if_neg (by omega)]
theorem actN_ne {what : Int} (now : Int) (l : Ents) (h : what ≠ 2) : actN what now l = now := if_neg (fun e => h e.1)
theorem actN_yes {now : Int} {l : Ents} (h : advOk now l = true) : actN 2 now l = now + 1 := if_pos ⟨rfl, h⟩
theorem actN_no {now : Int} {l : Ents} (h : advOk now l = false) : actN 2 now l = now := if_neg (fun e => by rw [h] at e; cases e.2)
theorem actL_pin {t now : Int} {l : Ents} (h : pinErr l t = 0) : actL 0 t now l = upd l t (.int .i64 now) := if_pos ⟨rfl, h⟩
theorem actL_pinE {t now : Int} {l : Ents} (h : pinErr l t ≠ 0) : actL 0 t now l = l := by unfold actL; rw [if_neg (fun e => h e.2), if_neg (fun e => by cases e.1)]
theorem actL_unpin {t now : Int} {l : Ents} (h : unpinErr l t = 0) : actL 1 t now l = del l t := by unfold actL; rw [if_neg (fun e => by cases e.1), if_pos ⟨rfl, h⟩]
theorem actL_unpinE {t now : Int} {l : Ents} (h : unpinErr l t ≠ 0) : actL 1 t now l = l := by unfold actL; rw [if_neg (fun e => by cases e.1), if_neg (fun e => h e.2)]
theorem actL_else {what t now : Int} {l : Ents} (h0 : what ≠ 0) (h1 : what ≠ 1) : actL what t now l = l := by unfold actL; rw [if_neg (fun e => h0 e.1), if_neg (fun e => h1 e.1)]
theorem ep_act (c m : Nat) (now what t : Int) (l : Ents) (w : World) (h : Clk w c m now l) (hok : COk now l) (hle : now ≤ 1073741823) :
    Calls Try.prog 52 #[.pointer (some ⟨c, 0, none⟩), .agg (refC now (pinN l)), .agg #[.int .i64 what, .int .i64 t]] w (ActR w c m (actN what now l) (actL what t now l) (pinN (actL what t now l))) := by
  have h0' := hok.low
  by_cases h0 : what = 0
  · subst h0
    by_cases hz : pinErr l t = 0
    · rw [actN_ne _ _ (by decide), actL_pin hz]
      have ht := pinErr_thr hz
      rw [pinF_upd l now ht.1]
      refine act_pin c m now t l _ (pinN l) _ now 0 w h (fun W hW => ep_pin_ok c m now l t W hW hz) (fun W => rf_Pin_ok now t (pinN l) W ((thr_iff t).2 ht) ?_ h0' (by omega))
      have := pinErr_num hok t.toNat (by omega)
      rw [show ((t.toNat : Nat) : Int) = t from by omega, hz] at this
      have hp := hok.pos t.toNat
      by_cases hq : 0 < pinN l t.toNat
      · rw [if_pos hq] at this; omega
      · omega
    · rw [actN_ne _ _ (by decide), actL_pinE hz]
      by_cases ht : 0 ≤ t ∧ t < 8
      · have := pinErr_num hok t.toNat (by omega)
        rw [show ((t.toNat : Nat) : Int) = t from by omega] at this
        by_cases hq : 0 < pinN l t.toNat
        · rw [if_pos hq] at this
          exact act_pin c m now t l l (pinN l) (pinN l) 0 240 w h (fun W hW => ep_pin_er c m now l t 240 W hW this (by decide)) (fun W => rf_Pin_was now t (pinN l) W ((thr_iff t).2 ht) hq)
        · rw [if_neg hq] at this
          exact absurd this hz
      · exact act_pin c m now t l l (pinN l) (pinN l) 0 2 w h (fun W hW => ep_pin_er c m now l t 2 W hW (pinErr_out ht) (by decide)) (fun W => rf_Pin_out now t (pinN l) W (by cases hb : thrB t with | false => rfl | true => exact absurd ((thr_iff t).1 hb) ht))
  by_cases h1 : what = 1
  · subst h1
    by_cases hz : unpinErr l t = 0
    · rw [actN_ne _ _ (by decide), actL_unpin hz]
      have ht := unpinErr_thr hz
      rw [pinF_del hok.nd ht.1]
      refine act_unpin c m now t l _ (pinN l) _ 0 w h (fun W hW => ep_unpin_ok c m now l t W hW hz) (fun W => rf_Unpin_ok now t (pinN l) W ((thr_iff t).2 ht) ?_)
      have := unpinErr_num hok t.toNat (by omega)
      rw [show ((t.toNat : Nat) : Int) = t from by omega, hz] at this
      intro hq
      rw [if_pos hq] at this
      omega
    · rw [actN_ne _ _ (by decide), actL_unpinE hz]
      by_cases ht : 0 ≤ t ∧ t < 8
      · have := unpinErr_num hok t.toNat (by omega)
        rw [show ((t.toNat : Nat) : Int) = t from by omega] at this
        by_cases hq : pinN l t.toNat = 0
        · rw [if_pos hq] at this
          exact act_unpin c m now t l l (pinN l) (pinN l) 5 w h (fun W hW => ep_unpin_er c m now l t 5 W hW this (by decide)) (fun W => rf_Unpin_was now t (pinN l) W ((thr_iff t).2 ht) hq)
        · rw [if_neg hq] at this
          exact absurd this hz
      · exact act_unpin c m now t l l (pinN l) (pinN l) 2 w h (fun W hW => ep_unpin_er c m now l t 2 W hW (unpinErr_out ht) (by decide)) (fun W => rf_Unpin_out now t (pinN l) W (by cases hb : thrB t with | false => rfl | true => exact absurd ((thr_iff t).1 hb) ht))
  by_cases h2 : what = 2
  · subst h2
    have hd := fun W => rf_Advance now l W hok (by omega)
    cases ha : advOk now l with
    | true =>
      rw [actN_yes ha, actL_else (by decide) (by decide)]
      rw [ha] at hd
      simp only [if_true] at hd
      exact act_adv c m now (now + 1) t l l (pinN l) (pinN l) true w h (fun W hW => ep_adv_yes c m now l W hW hok.vals h0' (by omega) ha) hd
    | false =>
      rw [actN_no ha, actL_else (by decide) (by decide)]
      rw [ha] at hd
      simp only [Bool.false_eq_true, if_false] at hd
      exact act_adv c m now now t l l (pinN l) (pinN l) false w h (fun W hW => ep_adv_no c m now l W hW hok.vals h0' (by omega) ha) hd
  · rw [actN_ne _ _ h2, actL_else h0 h1]
    exact act_copy c m now what t l (pinN l) w h h0 h1 h2
end Go.Proofs.Ytgpoplnfhlfogaa
