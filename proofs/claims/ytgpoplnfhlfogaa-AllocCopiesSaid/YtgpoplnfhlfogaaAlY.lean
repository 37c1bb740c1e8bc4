/- Package alloc: what a pool that is none tells. -/
import Derived.Test.YtgpoplnfhlfogaaAlX
namespace Go.Proofs.Ytgpoplnfhlfogaa
open Go Go.RowKit Go.Shelf
attribute [local go_sem] Oper.semAt_some

set_option maxRecDepth 100000 in
set_option maxHeartbeats 1000000 in
theorem no_Take (v : Value) (w : World) (h : NoneP w v) : Calls Try.prog 24 #[v, .int .i64 0] w fun e w' => e = .returned (.tuple #[.slice none 0 0, .int .i64 1]) ∧ Ext [] w w' := by
  obtain ⟨b, rfl⟩ : ∃ b, v = .pointer b := by rcases h with rfl | ⟨c, rfl, _⟩ <;> exact ⟨_, rfl⟩
  have HN := Lib.hid (fun W (hE : Ext [] w W) => no_none _ W (h.ext hE))
  clear h
  go_enter Try.func24, Try.ntmps24
  go_wp2_with fail
  refine wp_scope_ahead 0 rfl ?_
  go_wp2_with fail
  refine (HN.out _ (((Ext.refl _ _).alloc _).alloc _)).mono ?_
  rintro e w' ⟨rfl, rfl⟩
  go_wp2
  go_step3
  simp only [Exit.then]
  refine ⟨rfl, ?_⟩
  go_wp2
  rw [Exit.noGoto_ret]
  refine bodyPost_ret (v := .tuple #[.slice none 0 0, .int .i64 1]) (results_ct Try.results24 _ _ ⟨w.heap.size + 1, 0, none⟩ _ _ (by kernel_rfl) rfl ?_ rfl) rfl ?_
  · exact cell_new2 _ _ _ _
  · exact ⟨rfl, ((Ext.refl _ w).alloc _).alloc _⟩

set_option maxRecDepth 100000 in
set_option maxHeartbeats 1000000 in
theorem no_Count (v : Value) (w : World) (h : NoneP w v) : Calls Try.prog 35 #[v, .int .i64 0] w fun e w' => e = .returned (.tuple #[.int .i64 0, .int .i64 1]) ∧ w = w' := by
  have HN := Lib.hid (no_none v w h)
  clear h
  go_enter Try.func35, Try.ntmps35
  go_wp2_with fail
  refine HN.out.mono ?_
  rintro e w' ⟨rfl, rfl⟩
  go_wp2
  go_ret2
  exact ⟨rfl, rfl⟩

set_option maxRecDepth 100000 in
set_option maxHeartbeats 1000000 in
theorem no_Taken (v : Value) (w : World) (h : NoneP w v) : Calls Try.prog 37 #[v, .int .i64 0] w fun e w' => e = .returned (.bool false) ∧ w = w' := by
  have HN := Lib.hid (no_none v w h)
  clear h
  go_enter Try.func37, Try.ntmps37
  go_wp2_with fail
  refine HN.out.mono ?_
  rintro e w' ⟨rfl, rfl⟩
  go_wp2
  go_ret
  exact ⟨rfl, rfl⟩

set_option maxRecDepth 100000 in
set_option maxHeartbeats 1000000 in
theorem no_Copy (v : Value) (w : World) (h : NoneP w v) : Calls Try.prog 28 #[v] w fun e w' => e = .returned (.pointer none) ∧ w = w' := by
  have HN := Lib.hid (no_none v w h)
  clear h
  go_enter Try.func28, Try.ntmps28
  go_wp2_with fail
  refine HN.out.mono ?_
  rintro e w' ⟨rfl, rfl⟩
  go_wp2
  go_ret
  exact ⟨rfl, rfl⟩

set_option maxRecDepth 100000 in
set_option maxHeartbeats 1000000 in
theorem no_Lines (v : Value) (w : World) (h : NoneP w v) : Calls Try.prog 36 #[v] w fun e w' => e = .returned (.func (.func 82) #[] #[]) ∧ w = w' := by
  have HN := Lib.hid (no_none v w h)
  clear h
  go_enter Try.func36, Try.ntmps36
  go_wp2_with fail
  refine HN.out.mono ?_
  rintro e w' ⟨rfl, rfl⟩
  go_wp2
  go_ret
  exact ⟨rfl, rfl⟩

set_option maxRecDepth 100000 in
set_option maxHeartbeats 1000000 in
theorem no_turn (v : Value) (t : Bool) (er : Int) (ao : Option Addr) (m cap : Nat) (w : World) (h : NoneP w v) : Calls Try.prog 74 #[v, .bool t, .int .i64 er, .slice ao m cap] w fun e w' => e = .returned (.int .i64 1) ∧ Ext [] w w' := by
  obtain ⟨b, rfl⟩ : ∃ b, v = .pointer b := by rcases h with rfl | ⟨c, rfl, _⟩ <;> exact ⟨_, rfl⟩
  have HN := Lib.hid (fun W (hE : Ext [] w W) => no_none _ W (h.ext hE))
  clear h
  go_enter Try.func74, Try.ntmps74
  go_wp2_with fail
  refine (HN.out _ ((Ext.refl _ _).alloc _)).mono ?_
  rintro e w' ⟨rfl, rfl⟩
  go_wp2
  go_ret
  exact ⟨rfl, (Ext.refl _ _).alloc _⟩
set_option maxRecDepth 100000 in
set_option maxHeartbeats 1000000 in
theorem no_Give (v : Value) (ao : Option Addr) (m cap : Nat) (w : World) (h : NoneP w v) : Calls Try.prog 26 #[v, .slice ao m cap] w fun e w' => e = .returned (.int .i64 1) ∧ Ext [] w w' := by
  have HN := Lib.hid (no_turn v false 5 ao m cap w h)
  clear h
  go_enter Try.func26, Try.ntmps26
  go_wp2_with fail
  refine HN.out.mono ?_
  rintro e w' ⟨rfl, hE⟩
  go_wp2
  go_ret
  exact ⟨rfl, hE⟩
set_option maxRecDepth 100000 in
set_option maxHeartbeats 1000000 in
theorem no_Claim (v : Value) (ao : Option Addr) (m cap : Nat) (w : World) (h : NoneP w v) : Calls Try.prog 27 #[v, .slice ao m cap] w fun e w' => e = .returned (.int .i64 1) ∧ Ext [] w w' := by
  have HN := Lib.hid (no_turn v true 231 ao m cap w h)
  clear h
  go_enter Try.func27, Try.ntmps27
  go_wp2_with fail
  refine HN.out.mono ?_
  rintro e w' ⟨rfl, hE⟩
  go_wp2
  go_ret
  exact ⟨rfl, hE⟩

set_option maxRecDepth 100000 in
set_option maxHeartbeats 2000000 in
theorem no_Free (v : Value) (w : World) (h : NoneP w v) : Calls Try.prog 23 #[v] w fun e w' => e = .returned (.int .i64 0) ∧ Ext [] w w' := by
  have HN := Lib.hid (fun W (hE : Ext [] w W) => no_none v W (h.ext hE))
  obtain ⟨hb0, hb1, hs⟩ := al2_heap (w := w) #[v] #[.int .i64 0] 39 3
  have hE1 := ((Ext.refl [] w).alloc (.cells #[v] 39)).alloc (.cells #[.int .i64 0] 3)
  generalize hw1 : (w.alloc (.cells #[v] 39)).alloc (.cells #[.int .i64 0] 3) = w1 at *
  have k1 := cell_of (j := 0) (v := v) hb0 rfl
  have k4 := cell_of (j := 0) (v := .int .i64 0) hb1 rfl
  have f4 := free_of hb1 0
  have H1 := Lib.hid (And.intro hE1 hb1)
  obtain ⟨b, hv⟩ : ∃ b, v = .pointer b := by rcases h with rfl | ⟨c, rfl, _⟩ <;> exact ⟨_, rfl⟩
  subst hv
  clear h hE1 hb0 hb1 hs
  refine (callsIn_wide (n := 0)).1 (callsIn_of_wp_marks Try.func23 rfl trivial ?_ rfl)
  simp only [Try.ntmps23, List.size_toArray, List.length_cons, List.length_nil, Nat.reduceAdd, Nat.reduceSub, Array.replicate_succ, Array.replicate_zero, List.push_toArray, List.append_toArray, List.nil_append, List.cons_append]
  refine wpIn_wide.2 ?_
  go_wp2_with fail
  refine (HN.out w1 H1.out.1).mono ?_
  rintro e w' ⟨rfl, rfl⟩
  go_wp2
  obtain ⟨W5, hW5⟩ : ∃ W5, W5 = w1.setCell ⟨w.heap.size + 1, 0, none⟩ (.int .i64 0) := ⟨_, rfl⟩
  have b5 : W5.heap[w.heap.size + 1]? = some (.cells #[.int .i64 0] 3 (0, 0)) := by rw [hW5]; exact cell1_set H1.out.2 _
  have e5 : Ext [] w W5 := by rw [hW5]; exact H1.out.1.setCell (.inr (by simp)) _
  have fin : ∀ (tmps : Array Value), tmps.getD 2 undef = .pointer (some ⟨w.heap.size + 1, 0, none⟩) → LeavesInM Fence.wide 0 Try.prog Try.f23 tmps (fun e w' => e = .returned (.int .i64 0) ∧ Ext [] w w') ([].map fun D => { target := .collected D, args := #[] }) .returning W5 := by
    intro tmps ht
    refine leaves_marks (v := .int .i64 0) [] W5 (fun D' hD' => (by cases hD')) (by simp) (fun w' hE' => ⟨results_cellb Try.results23 _ _ ⟨w.heap.size + 1, 0, none⟩ _ (by kernel_rfl) ht (hE'.cell (cell_of (j := 0) b5 rfl) (by simp)), rfl, e5.trans hE'⟩)
  show LeavesInM _ _ _ _ _ _ _ _ _
  rw [hW5] at fin
  refine fin _ ?_
  rfl
end Go.Proofs.Ytgpoplnfhlfogaa
