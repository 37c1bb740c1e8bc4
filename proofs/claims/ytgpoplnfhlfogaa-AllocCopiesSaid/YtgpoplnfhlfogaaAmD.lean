/- Package alloc: Same where a pool is none; New refused. -/
import Derived.Test.YtgpoplnfhlfogaaAlZ
import Derived.Test.YtgpoplnfhlfogaaAlJ
namespace Go.Proofs.Ytgpoplnfhlfogaa
open Go Go.RowKit Go.Shelf
attribute [local go_sem] Oper.semAt_some

theorem S0_free (lo : Int) (n : Nat) : (thoseL S0 false lo n).length = n := by
  have h := those_len S0 lo n
  have h2 : thoseL S0 true lo n = [] := by
    unfold thoseL
    rw [List.filter_eq_nil_iff]
    intro k _
    simp [S0]
  rw [h2] at h
  simpa using h

set_option maxRecDepth 100000 in
set_option maxHeartbeats 1000000 in
theorem al_NewBad (lo hi : Int) (w : World) (h : rightB lo hi = false) :
    Calls Try.prog 22 #[.int .i64 lo, .int .i64 hi] w fun e w' => e = .returned (.tuple #[.pointer none, .int .i64 2]) ∧ Ext [] w w' := by
  by_cases h1 : lo < 0
  · clear h
    go_enter Try.func22, Try.ntmps22
    go_wp2
    go_ret2
    exact ⟨rfl, Ext.refl _ _⟩
  · by_cases h2 : hi < lo
    · clear h
      go_enter Try.func22, Try.ntmps22
      go_wp2
      go_ret2
      exact ⟨rfl, Ext.refl _ _⟩
    · have h3 : (1024 : Int) ≤ hi := by
        unfold rightB at h
        simp at h
        omega
      clear h
      go_enter Try.func22, Try.ntmps22
      go_wp2
      go_ret2
      exact ⟨rfl, Ext.refl _ _⟩

set_option maxRecDepth 100000 in
set_option maxHeartbeats 2000000 in
theorem al_SameN (b1 b2 : Option Addr) (x y : Bool) (w : World) (hxy : (x || y) = true)
    (hN1 : ∀ W, Ext [] w W → Calls Try.prog 68 #[.pointer b1] W fun e w' => e = .returned (.bool x) ∧ W = w')
    (hN2 : ∀ W, Ext [] w W → Calls Try.prog 68 #[.pointer b2] W fun e w' => e = .returned (.bool y) ∧ W = w') :
    Calls Try.prog 30 #[.pointer b1, .pointer b2] w fun e w' => e = .returned (.bool (x && y)) ∧ Ext [] w w' := by
  obtain ⟨hb1, hb2, hbr, hs1⟩ := al3_heap (w := w) #[.pointer b1] #[.pointer b2] #[.bool false] 39 39 4
  have hE1 := (((Ext.refl [] w).alloc (.cells #[.pointer b1] 39)).alloc (.cells #[.pointer b2] 39)).alloc (.cells #[.bool false] 4)
  generalize hw1 : ((w.alloc (.cells #[.pointer b1] 39)).alloc (.cells #[.pointer b2] 39)).alloc (.cells #[.bool false] 4) = w1 at *
  have k1 := cell_of (j := 0) (v := .pointer b1) hb1 rfl
  have k2 := cell_of (j := 0) (v := .pointer b2) hb2 rfl
  have k3 := cell_of (j := 0) (v := .bool false) hbr rfl
  have f3 := free_of hbr 0
  have HN1 := Lib.hid (hN1 w1 hE1)
  have HN2 := Lib.hid (hN2 w1 hE1)
  have H1 := Lib.hid (And.intro hE1 hbr)
  clear hN1 hN2 hE1 hb1 hb2 hbr hs1
  have fin : Hid (∀ (tmps : Array Value) (v : Bool), tmps.getD 4 undef = .pointer (some ⟨w.heap.size + 2, 0, none⟩) → LeavesInM Fence.wide 0 Try.prog Try.f30 tmps (fun e w' => e = .returned (.bool v) ∧ Ext [] w w') ([].map fun D => { target := .collected D, args := #[] }) .returning (w1.setCell ⟨w.heap.size + 2, 0, none⟩ (.bool v))) := by
    intro tmps v ht
    obtain ⟨W5, hW5⟩ : ∃ W5, W5 = w1.setCell ⟨w.heap.size + 2, 0, none⟩ (.bool v) := ⟨_, rfl⟩
    have b5 : W5.heap[w.heap.size + 2]? = some (.cells #[.bool v] 4 (0, 0)) := by rw [hW5]; exact cell1_set H1.out.2 _
    have e5 : Ext [] w W5 := by rw [hW5]; exact H1.out.1.setCell (.inr (by simp)) _
    rw [← hW5]
    exact leaves_marks (v := .bool v) [] W5 (fun D' hD' => (by cases hD')) (by simp) (fun w' hE' => ⟨results_cellb Try.results30 _ _ ⟨w.heap.size + 2, 0, none⟩ _ (by kernel_rfl) ht (hE'.cell (cell_of (j := 0) b5 rfl) (by simp)), rfl, e5.trans hE'⟩)

  cases x <;> cases y
  · cases hxy
  · refine (callsIn_wide (n := 0)).1 (callsIn_of_wp_marks Try.func30 rfl trivial ?_ rfl)
    simp only [Try.ntmps30, List.size_toArray, List.length_cons, List.length_nil, Nat.reduceAdd, Nat.reduceSub, Array.replicate_succ, Array.replicate_zero, List.push_toArray, List.append_toArray, List.nil_append, List.cons_append]
    refine wpIn_wide.2 ?_
    go_wp2_with fail
    refine HN1.out.mono ?_
    rintro e w' ⟨rfl, rfl⟩
    go_wp2_with fail
    refine HN2.out.mono ?_
    rintro e w' ⟨rfl, rfl⟩
    go_wp2_with fail
    refine HN1.out.mono ?_
    rintro e w' ⟨rfl, rfl⟩
    go_wp2
    show LeavesInM _ _ _ _ _ _ _ _ _
    refine fin.out _ _ ?_
    rfl
  · refine (callsIn_wide (n := 0)).1 (callsIn_of_wp_marks Try.func30 rfl trivial ?_ rfl)
    simp only [Try.ntmps30, List.size_toArray, List.length_cons, List.length_nil, Nat.reduceAdd, Nat.reduceSub, Array.replicate_succ, Array.replicate_zero, List.push_toArray, List.append_toArray, List.nil_append, List.cons_append]
    refine wpIn_wide.2 ?_
    go_wp2_with fail
    refine HN1.out.mono ?_
    rintro e w' ⟨rfl, rfl⟩
    go_wp2_with fail
    refine HN1.out.mono ?_
    rintro e w' ⟨rfl, rfl⟩
    go_wp2_with fail
    refine HN2.out.mono ?_
    rintro e w' ⟨rfl, rfl⟩
    go_wp2
    show LeavesInM _ _ _ _ _ _ _ _ _
    refine fin.out _ _ ?_
    rfl
  · refine (callsIn_wide (n := 0)).1 (callsIn_of_wp_marks Try.func30 rfl trivial ?_ rfl)
    simp only [Try.ntmps30, List.size_toArray, List.length_cons, List.length_nil, Nat.reduceAdd, Nat.reduceSub, Array.replicate_succ, Array.replicate_zero, List.push_toArray, List.append_toArray, List.nil_append, List.cons_append]
    refine wpIn_wide.2 ?_
    go_wp2_with fail
    refine HN1.out.mono ?_
    rintro e w' ⟨rfl, rfl⟩
    go_wp2_with fail
    refine HN1.out.mono ?_
    rintro e w' ⟨rfl, rfl⟩
    go_wp2_with fail
    refine HN2.out.mono ?_
    rintro e w' ⟨rfl, rfl⟩
    go_wp2
    show LeavesInM _ _ _ _ _ _ _ _ _
    refine fin.out _ _ ?_
    rfl
end Go.Proofs.Ytgpoplnfhlfogaa
