/- The law's own: store, flush, fence, num, works. -/
import Derived.Test.YtmfbgkcphiomaaaTrL
import Derived.Test.YtmfbgkcphiomaaaRes
import Derived.Test.YtmfbgkcphiomaaaStc
namespace Go.Proofs.Ytmfbgkcphiomaaa
open Go Go.RowKit Go.Shelf
attribute [local go_sem] Oper.semAt_some

set_option maxHeartbeats 400000 in
theorem la_num (e : Int) (w : World) : Calls Try.prog 13 #[.int .i64 e] w fun x w' => x = .returned (.int .i64 e) ∧ w' = w := by
  go_enter Try.func13, Try.ntmps13
  go_wp2
  go_ret
  exact ⟨rfl, rfl⟩
set_option maxHeartbeats 400000 in
theorem la_store (a x : Int) (w : World) : Calls Try.prog 21 #[.int .i64 a, .int .u64 x] w fun e w' => e = .returned (.agg #[.int .i64 2, .int .i64 a, .int .u64 x]) ∧ Ext [] w w' := by
  go_enter Try.func21, Try.ntmps21
  go_wp2
  refine bodyPost_ret (results_agg Try.results21 _ _ w.heap.size 45 #[.int .i64 2, .int .i64 a, .int .u64 x] (0, 0) _ rfl (World.alloc_heap_new _ _) Try.underlying45 rfl (by kernel_rfl)) rfl ?_
  exact ⟨rfl, (Ext.refl _ _).alloc _⟩
set_option maxHeartbeats 400000 in
theorem la_flush (a : Int) (w : World) : Calls Try.prog 28 #[.int .i64 a] w fun e w' => e = .returned (.agg #[.int .i64 3, .int .i64 a, .int .u64 0]) ∧ Ext [] w w' := by
  go_enter Try.func28, Try.ntmps28
  go_wp2
  refine bodyPost_ret (results_agg Try.results28 _ _ w.heap.size 45 #[.int .i64 3, .int .i64 a, .int .u64 0] (0, 0) _ rfl (World.alloc_heap_new _ _) Try.underlying45 rfl (by kernel_rfl)) rfl ?_
  exact ⟨rfl, (Ext.refl _ _).alloc _⟩
set_option maxHeartbeats 400000 in
theorem la_fence (w : World) : Calls Try.prog 20 #[] w fun e w' => e = .returned (.agg #[.int .i64 4, .int .i64 0, .int .u64 0]) ∧ Ext [] w w' := by
  go_enter Try.func20, Try.ntmps20
  go_wp2
  refine bodyPost_ret (results_agg Try.results20 _ _ w.heap.size 45 #[.int .i64 4, .int .i64 0, .int .u64 0] (0, 0) _ rfl (World.alloc_heap_new _ _) Try.underlying45 rfl (by kernel_rfl)) rfl ?_
  exact ⟨rfl, (Ext.refl _ _).alloc _⟩

def wl1 : List Tch := [⟨2, 9, 1⟩, ⟨3, 0, 0⟩, ⟨1, 17, 0⟩]
def wl2 : List Tch := [⟨2, 9, 1⟩]
def wl3 : List Tch := [⟨2, 9, 1⟩, ⟨2, 8, 2⟩, ⟨2, 9, 3⟩]
def wl4 : List Tch := [⟨2, 9, 1⟩, ⟨3, 1, 0⟩, ⟨4, 0, 0⟩]
def wl5 : List Tch := [⟨2, 9, 1⟩, ⟨4, 0, 0⟩, ⟨3, 1, 0⟩]
def wl6 : List Tch := [⟨3, 1024, 0⟩]
def wl7 : List Tch := [⟨4, 1, 0⟩]
theorem wl1_lin : linE wl1 = ([0, 1, 2], 0) := by kernel_rfl
theorem wl2_clo : clo wl2 = (wl4, 0) := by kernel_rfl
theorem wl3_puts : putsL (stL wl3) = [(8, 2), (9, 3)] := by kernel_rfl
theorem wl4_ord : (tcheck wl4 == 0 && ordL wl4) = true := by kernel_rfl
theorem wl5_ord : (tcheck wl5 == 0 && ordL wl5) = false := by kernel_rfl
theorem wl6_chk : tcheck wl6 = 2 := by kernel_rfl
theorem wl7_chk : tcheck wl7 = 2 := by kernel_rfl
theorem wk_lines (W : World) : Calls Try.prog 24 #[.slice (some ⟨W.heap.size, 0, none⟩) 3 3] (W.alloc (.cells #[.int .i64 2, .int .i64 9, .int .u64 1, .int .i64 3, .int .i64 0, .int .u64 0, .int .i64 1, .int .i64 17, .int .u64 0] 45)) fun e w' => ∃ ao cap, e = .returned (.tuple #[.slice ao 3 cap, .int .i64 0]) ∧ IntsAt w' ao [0, 1, 2] ∧ Ext [] W w' := by
  have hE : Ext [] W (W.alloc (.cells #[.int .i64 2, .int .i64 9, .int .u64 1, .int .i64 3, .int .i64 0, .int .u64 0, .int .i64 1, .int .i64 17, .int .u64 0] 45)) := (Ext.refl _ _).alloc _
  have hL : TcAt (W.alloc (.cells #[.int .i64 2, .int .i64 9, .int .u64 1, .int .i64 3, .int .i64 0, .int .u64 0, .int .i64 1, .int .i64 17, .int .u64 0] 45)) W.heap.size (some ⟨W.heap.size, 0, none⟩) wl1 := TcAt.lit (L := wl1) (World.alloc_heap_new W _)
  have h := tr_Lines W.heap.size _ 3 wl1 _ hL (by decide)
  rw [wl1_lin] at h
  refine h.mono ?_
  rintro e w' ⟨ao, cap, h1, h2, h3⟩
  exact ⟨ao, cap, h1, h2, hE.trans h3⟩
theorem wk_closed (N : Nat) (W : World) : Calls Try.prog 11 #[.slice (some ⟨W.heap.size, 0, none⟩) 1 1] (W.alloc (.cells #[.int .i64 2, .int .i64 9, .int .u64 1] 45)) fun e w' => ∃ ao cap, e = .returned (.tuple #[.slice ao 3 cap, .int .i64 0]) ∧ TcAt w' N ao wl4 ∧ Ext [] W w' := by
  have hE : Ext [] W (W.alloc (.cells #[.int .i64 2, .int .i64 9, .int .u64 1] 45)) := (Ext.refl _ _).alloc _
  have hL : TcAt (W.alloc (.cells #[.int .i64 2, .int .i64 9, .int .u64 1] 45)) W.heap.size (some ⟨W.heap.size, 0, none⟩) wl2 := TcAt.lit (L := wl2) (World.alloc_heap_new W _)
  have h := tr_Closed W.heap.size _ 1 wl2 _ hL (by decide)
  rw [wl2_clo] at h
  refine h.mono ?_
  rintro e w' ⟨v, h1, h2, h3⟩
  obtain ⟨ao, cap, rfl, h4, _⟩ := h3.at (N := N)
  exact ⟨ao, cap, h1, h4, hE.trans h2⟩
theorem wk_stores (W : World) : Calls Try.prog 19 #[.slice (some ⟨W.heap.size, 0, none⟩) 3 3] (W.alloc (.cells #[.int .i64 2, .int .i64 9, .int .u64 1, .int .i64 2, .int .i64 8, .int .u64 2, .int .i64 2, .int .i64 9, .int .u64 3] 45)) fun e w' => ∃ B b es, e = .returned (.func (.func 35) #[] #[.pointer (some ⟨B, 0, none⟩)]) ∧ Ext [] W w' ∧ PKB B b es w' ∧ Lays es [(8, 2), (9, 3)] ∧ (∀ p ∈ es, (Lit.int .i64 p.1).wf = true) ∧ W.heap.size ≤ B ∧ W.heap.size ≤ b := by
  have hE : Ext [] W (W.alloc (.cells #[.int .i64 2, .int .i64 9, .int .u64 1, .int .i64 2, .int .i64 8, .int .u64 2, .int .i64 2, .int .i64 9, .int .u64 3] 45)) := (Ext.refl _ _).alloc _
  have hL : TcAt (W.alloc (.cells #[.int .i64 2, .int .i64 9, .int .u64 1, .int .i64 2, .int .i64 8, .int .u64 2, .int .i64 2, .int .i64 9, .int .u64 3] 45)) W.heap.size (some ⟨W.heap.size, 0, none⟩) wl3 := TcAt.lit (L := wl3) (World.alloc_heap_new W _)
  have h := tr_Stores W.heap.size _ 3 wl3 _ hL (by decide)
  rw [wl3_puts] at h
  refine h.mono ?_
  rintro e w' ⟨B, b, es, h1, h2, h3, h4, h5, h6, h7⟩
  have hz := hE.size
  exact ⟨B, b, es, h1, hE.trans h2, h3, h4, h5, by omega, by omega⟩
theorem wk_ord4 (W : World) : Calls Try.prog 14 #[.slice (some ⟨W.heap.size, 0, none⟩) 3 3] (W.alloc (.cells #[.int .i64 2, .int .i64 9, .int .u64 1, .int .i64 3, .int .i64 1, .int .u64 0, .int .i64 4, .int .i64 0, .int .u64 0] 45)) fun e w' => e = .returned (.bool true) ∧ Ext [] W w' := by
  have hE : Ext [] W (W.alloc (.cells #[.int .i64 2, .int .i64 9, .int .u64 1, .int .i64 3, .int .i64 1, .int .u64 0, .int .i64 4, .int .i64 0, .int .u64 0] 45)) := (Ext.refl _ _).alloc _
  have hL : TcAt (W.alloc (.cells #[.int .i64 2, .int .i64 9, .int .u64 1, .int .i64 3, .int .i64 1, .int .u64 0, .int .i64 4, .int .i64 0, .int .u64 0] 45)) W.heap.size (some ⟨W.heap.size, 0, none⟩) wl4 := TcAt.lit (L := wl4) (World.alloc_heap_new W _)
  have h := tr_Orderly W.heap.size _ 3 wl4 _ hL (by decide)
  rw [wl4_ord] at h
  refine h.mono ?_
  rintro e w' ⟨h1, h2⟩
  exact ⟨h1, hE.trans h2⟩
theorem wk_ord5 (W : World) : Calls Try.prog 14 #[.slice (some ⟨W.heap.size, 0, none⟩) 3 3] (W.alloc (.cells #[.int .i64 2, .int .i64 9, .int .u64 1, .int .i64 4, .int .i64 0, .int .u64 0, .int .i64 3, .int .i64 1, .int .u64 0] 45)) fun e w' => e = .returned (.bool false) ∧ Ext [] W w' := by
  have hE : Ext [] W (W.alloc (.cells #[.int .i64 2, .int .i64 9, .int .u64 1, .int .i64 4, .int .i64 0, .int .u64 0, .int .i64 3, .int .i64 1, .int .u64 0] 45)) := (Ext.refl _ _).alloc _
  have hL : TcAt (W.alloc (.cells #[.int .i64 2, .int .i64 9, .int .u64 1, .int .i64 4, .int .i64 0, .int .u64 0, .int .i64 3, .int .i64 1, .int .u64 0] 45)) W.heap.size (some ⟨W.heap.size, 0, none⟩) wl5 := TcAt.lit (L := wl5) (World.alloc_heap_new W _)
  have h := tr_Orderly W.heap.size _ 3 wl5 _ hL (by decide)
  rw [wl5_ord] at h
  refine h.mono ?_
  rintro e w' ⟨h1, h2⟩
  exact ⟨h1, hE.trans h2⟩
theorem wk_chk6 (W : World) : Calls Try.prog 22 #[.slice (some ⟨W.heap.size, 0, none⟩) 1 1] (W.alloc (.cells #[.int .i64 3, .int .i64 1024, .int .u64 0] 45)) fun e w' => e = .returned (.int .i64 2) ∧ Ext [] W w' := by
  have hE : Ext [] W (W.alloc (.cells #[.int .i64 3, .int .i64 1024, .int .u64 0] 45)) := (Ext.refl _ _).alloc _
  have hL : TcAt (W.alloc (.cells #[.int .i64 3, .int .i64 1024, .int .u64 0] 45)) W.heap.size (some ⟨W.heap.size, 0, none⟩) wl6 := TcAt.lit (L := wl6) (World.alloc_heap_new W _)
  have h := tc_Check W.heap.size _ 1 wl6 _ hL (by decide)
  rw [wl6_chk] at h
  refine h.mono ?_
  rintro e w' ⟨h1, h2⟩
  exact ⟨h1, hE.trans h2⟩
theorem wk_chk7 (W : World) : Calls Try.prog 22 #[.slice (some ⟨W.heap.size, 0, none⟩) 1 1] (W.alloc (.cells #[.int .i64 4, .int .i64 1, .int .u64 0] 45)) fun e w' => e = .returned (.int .i64 2) ∧ Ext [] W w' := by
  have hE : Ext [] W (W.alloc (.cells #[.int .i64 4, .int .i64 1, .int .u64 0] 45)) := (Ext.refl _ _).alloc _
  have hL : TcAt (W.alloc (.cells #[.int .i64 4, .int .i64 1, .int .u64 0] 45)) W.heap.size (some ⟨W.heap.size, 0, none⟩) wl7 := TcAt.lit (L := wl7) (World.alloc_heap_new W _)
  have h := tc_Check W.heap.size _ 1 wl7 _ hL (by decide)
  rw [wl7_chk] at h
  refine h.mono ?_
  rintro e w' ⟨h1, h2⟩
  exact ⟨h1, hE.trans h2⟩
theorem wk_same (N : Nat) (ao : Option Addr) (ca : Nat) (W : World) (hA : TcAt W N ao wl4) : Calls Try.prog 17 #[.slice ao 3 ca, .slice (some ⟨W.heap.size, 0, none⟩) 3 3] (W.alloc (.cells #[.int .i64 2, .int .i64 9, .int .u64 1, .int .i64 3, .int .i64 1, .int .u64 0, .int .i64 4, .int .i64 0, .int .u64 0] 45)) fun e w' => e = .returned (.bool true) ∧ Ext [] W w' := by
  have hE : Ext [] W (W.alloc (.cells #[.int .i64 2, .int .i64 9, .int .u64 1, .int .i64 3, .int .i64 1, .int .u64 0, .int .i64 4, .int .i64 0, .int .u64 0] 45)) := (Ext.refl _ _).alloc _
  have hL : TcAt (W.alloc (.cells #[.int .i64 2, .int .i64 9, .int .u64 1, .int .i64 3, .int .i64 1, .int .u64 0, .int .i64 4, .int .i64 0, .int .u64 0] 45)) W.heap.size (some ⟨W.heap.size, 0, none⟩) wl4 := TcAt.lit (L := wl4) (World.alloc_heap_new W _)
  have h := ts_Same N W.heap.size ao _ ca 3 wl4 wl4 _ (hA.ext0 hE) hL (by decide) (by decide)
  rw [decide_eq_true rfl] at h
  refine h.mono ?_
  rintro e w' ⟨h1, q, h2⟩
  exact ⟨h1, by rw [h2]; exact hE.drewN q⟩
theorem wk_ints (ao : Option Addr) (ca : Nat) (W : World) (hA : IntsAt W ao [0, 1, 2]) : Calls Try.prog 26 #[.slice ao 3 ca, .slice (some ⟨W.heap.size, 0, none⟩) 3 3] (W.alloc (.cells #[.int .i64 0, .int .i64 1, .int .i64 2] 3)) fun e w' => e = .returned (.bool true) ∧ Ext [] W w' := by
  have hE : Ext [] W (W.alloc (.cells #[.int .i64 0, .int .i64 1, .int .i64 2] 3)) := (Ext.refl _ _).alloc _
  have hL : IntsAt (W.alloc (.cells #[.int .i64 0, .int .i64 1, .int .i64 2] 3)) (some ⟨W.heap.size, 0, none⟩) [0, 1, 2] := fun i hi => ⟨_, 0, rfl, by
    rw [Nat.zero_add]
    refine cell_of (World.alloc_heap_new W _) ?_
    match i, hi with
    | 0, _ => rfl
    | 1, _ => rfl
    | 2, _ => rfl⟩
  have h := pl_Ints ao _ ca 3 [0, 1, 2] [0, 1, 2] _ (hA.ext hE (fun _ _ => by simp)) hL (by decide) (by decide)
  rw [decide_eq_true rfl] at h
  refine h.mono ?_
  rintro e w' ⟨h1, h2⟩
  exact ⟨h1, hE.trans h2⟩
theorem eqfn2 (g : Nat) (lb : Array Value) (w : World) : (binOp .eql 37 (.func (.func g) #[] lb) .nilFunc).run Try.prog w = .ok (.bool false) w := by
  kernel_rfl
/-- what the loop has reckoned -/
def nv : Nat → Int
  | 0 => 0
  | 1 => 82
  | _ => 8293

set_option maxRecDepth 100000 in
set_option maxHeartbeats 8000000 in
theorem law05_works (w : World) : Calls Try.prog 10 #[] w fun e w' => e = .returned (.bool true) ∧ Ext [] w w' := by
  have hX : Ext [] w w := Ext.refl _ _
  refine (callsIn_wide (n := 0)).1 (callsIn_of_wp_marks Try.func10 rfl trivial ?_ rfl)
  simp only [Try.ntmps10, List.size_toArray, List.length_nil, Nat.reduceSub, Array.replicate_succ, Array.replicate_zero, List.push_toArray, List.append_toArray, List.nil_append, List.cons_append]
  refine wpIn_wide.2 (wp_mono (Q := NoPanic (bodyPostM Fence.wide 0 Try.prog Try.f10 fun e w' => e = .returned (.bool true) ∧ Ext [] w w')) ?_ NoPanic.out)
  go_wp2_with (first
    | (go_at_call 21; refine (la_store _ _ _).mono ?_; rintro e w' ⟨rfl, hE⟩; replace hX := hX.trans hE; clear hE)
    | (go_at_call 28; refine (la_flush _ _).mono ?_; rintro e w' ⟨rfl, hE⟩; replace hX := hX.trans hE; clear hE)
    | (go_at_call 20; refine (la_fence _).mono ?_; rintro e w' ⟨rfl, hE⟩; replace hX := hX.trans hE; clear hE))
  refine (wk_lines _).mono ?_
  rintro e w1 ⟨la, lc, rfl, hl, hE⟩
  replace hX := hX.trans hE
  have HA := Lib.hid (And.intro hX hl)
  clear hX hl hE
  have hX : Ext [] w1 w1 := Ext.refl _ _
  go_wp2_with (first
    | (go_at_call 21; refine (la_store _ _ _).mono ?_; rintro e w' ⟨rfl, hE⟩; replace hX := hX.trans hE; clear hE)
    | (go_at_call 28; refine (la_flush _ _).mono ?_; rintro e w' ⟨rfl, hE⟩; replace hX := hX.trans hE; clear hE)
    | (go_at_call 20; refine (la_fence _).mono ?_; rintro e w' ⟨rfl, hE⟩; replace hX := hX.trans hE; clear hE))
  refine (wk_closed 0 _).mono ?_
  rintro e w2 ⟨ca, cc, rfl, hc, hE⟩
  have h2 := hX.trans hE
  obtain ⟨W2, hW2⟩ : ∃ W2, w2.alloc (.cells #[.int .u64 0] 39) = W2 := ⟨_, rfl⟩
  have hb2 : W2.heap[w2.heap.size]? = some (.cells #[.int .u64 0] 39 (0, 0)) := by rw [← hW2]; exact World.alloc_heap_new _ _
  have hE2 : Ext [] w2 W2 := by rw [← hW2]; exact (Ext.refl _ _).alloc _
  obtain ⟨nb, hnb⟩ : ∃ nb, w2.heap.size = nb := ⟨_, rfl⟩
  rw [hnb] at hb2
  have HLT : Hid ((∀ p, la = some p → p.block ≠ nb) ∧ (∀ p, ca = some p → p.block ≠ nb) ∧ w.heap.size ≤ nb) := by
    refine ⟨fun p hp => ?_, fun p hp => ?_, by have h3 := HA.out.1.size; have h4 := h2.size; omega⟩
    · obtain ⟨g, off, h3, h4⟩ := HA.out.2 0 (by decide)
      rw [hp] at h3
      cases h3
      have h5 : g < w1.heap.size := World.block_lt_of_cell? w1 ⟨g, off + 0, none⟩ h4
      have h6 := h2.size
      have h7 : g ≠ nb := by omega
      exact h7
    · rcases hc.2 with h3 | h3
      · exact absurd h3 (by decide)
      · have := (h3 p hp).1
        omega
  have HB := Lib.hid (And.intro (HA.out.1.trans (h2.trans hE2)) (And.intro (HA.out.2.ext (h2.trans hE2) (fun _ _ => by simp)) (And.intro (hc.ext0 hE2) hb2)))
  have kk0 := cell_of (j := 0) (v := .int .u64 0) hb2 rfl
  have ff0 := free_of hb2 0
  have ss0 : W2.setCell ⟨nb, 0, none⟩ (.int .u64 0) = W2 := setCell_same (o := 0) hb2 rfl
  clear hX hc hE h2 hE2 hb2 HA
  have hX : Ext [] W2 W2 := Ext.refl _ _
  go_wp2_with (first
    | (go_at_call 21; refine (la_store _ _ _).mono ?_; rintro e w' ⟨rfl, hE⟩; replace hX := hX.trans hE; clear hE)
    | (go_at_call 28; refine (la_flush _ _).mono ?_; rintro e w' ⟨rfl, hE⟩; replace hX := hX.trans hE; clear hE)
    | (go_at_call 20; refine (la_fence _).mono ?_; rintro e w' ⟨rfl, hE⟩; replace hX := hX.trans hE; clear hE))
  clear hW2 hnb ss0 ff0 kk0
  refine (wk_stores _).mono ?_
  rintro e w3 ⟨B1, m1, es1, rfl, hE, _, _, _, _, _⟩
  replace hX := hX.trans hE
  have heq := eqfn2 35 #[.pointer (some ⟨B1, 0, none⟩)] w3
  clear hE
  go_wp2_with (first
    | (go_at_call 21; refine (la_store _ _ _).mono ?_; rintro e w' ⟨rfl, hE⟩; replace hX := hX.trans hE; clear hE)
    | (go_at_call 28; refine (la_flush _ _).mono ?_; rintro e w' ⟨rfl, hE⟩; replace hX := hX.trans hE; clear hE)
    | (go_at_call 20; refine (la_fence _).mono ?_; rintro e w' ⟨rfl, hE⟩; replace hX := hX.trans hE; clear hE))
  refine (wk_stores _).mono ?_
  rintro e W4 ⟨B, bm, es, rfl, hE, hP, hLy, hwf, hBB, hbm⟩
  have hz := hX.size
  replace hX := hX.trans hE
  have hb4 := hX.at HB.out.2.2.2 (by simp)
  have H4 := Lib.hid (And.intro (HB.out.1.trans hX) (And.intro (HB.out.2.1.ext hX (fun _ _ => by simp)) (And.intro (HB.out.2.2.1.ext0 hX) (And.intro hb4 (And.intro hP (And.intro hLy (And.intro hwf (show nb < B ∧ nb < bm from by
    have h := lt_of_block HB.out.2.2.2
    omega))))))))
  clear hX hE hP hLy hwf hBB hbm heq hb4 hz
  go_wp2
  refine wpIn_wide.1 (wp_range (gf := 35) (lb := #[.pointer (some ⟨B, 0, none⟩)]) rfl (fun args w => enters_of Try.func35 (by kernel_rfl) rfl args w)
    (stores_seq B bm es [(8, 2), (9, 3)] H4.out.2.2.2.2.2.1 (by decide) H4.out.2.2.2.2.2.2.1) (fun pre x h => by obtain ⟨k, _, _, rfl⟩ := okW_last h; rfl) [nb]
    (fun mm pre W => mm = [nb] ∧ Ext [nb] W4 W ∧ W.heap[nb]? = some (.cells #[.int .u64 (nv pre.length)] 39 (0, 0))) (fun _ _ => False) ?_ ?_ ?_ ?_ ?_ ?_ ?_ ?_)
  · exact fun mm pre => (Steady.const _ _).and ((Steady.ext (Nat.le_refl _)).and (Steady.block (.inr rfl)))
  · exact fun c => Steady.const _ _
  · rintro mm pre W' ⟨_, hE, _⟩
    obtain ⟨h1, h2⟩ := H4.out.2.2.2.2.1
    obtain ⟨h3, h4⟩ := H4.out.2.2.2.2.2.2.2
    exact ⟨hE.cell h1 (by simp; omega), h2.ext hE (by simp; omega)⟩
  · intro x hx
    simp at hx
    subst hx
    exact lt_of_block H4.out.2.2.2.1
  · exact ⟨rfl, Ext.refl _ _, H4.out.2.2.2.1⟩
  · rintro l2 mm pre x W' hl2 hi hokp
    obtain ⟨k, hk, hpre, rfl⟩ := okW_last hokp
    have hpl : pre.length = k := by rw [hpre, encW_len _ _ (Nat.le_of_lt hk)]
    have hk2 : k = 0 ∨ k = 1 := by
      have : k < 2 := hk
      omega
    have HI := Lib.hid (And.intro hi hpl)
    clear hi hpl hokp hpre hl2 hk
    intro K hK
    unfold pairW
    gi_wp2
    refine hK _ _ (Ext.refl [] _) ?_
    intro W6 hC
    clear hK K
    have hi6 : mm = [nb] ∧ Ext [nb] W4 W6 ∧ W6.heap[nb]? = some (.cells #[.int .u64 (nv pre.length)] 39 (0, 0)) := ((Steady.const _ _).and ((Steady.ext (Nat.le_refl _)).and (Steady.block (.inr rfl)))) _ _ HI.out.1 hC
    obtain ⟨rfl, hE6, hb6⟩ := hi6
    rw [HI.out.2] at hb6
    have HS := Lib.hid (And.intro hE6 hb6)
    clear hC hE6
    rcases hk2 with rfl | rfl
    · have q0 := cell_of (j := 0) (v := .int .u64 0) hb6 rfl
      have q1 := free_of hb6 0
      clear hb6
      have e1 : List.getD [((8 : Int), (2 : Int)), (9, 3)] 0 (0, 0) = (8, 2) := rfl
      rw [e1]
      gi_wp2
      refine ⟨(Ext.refl _ _).setCell (.inl (by simp)) _, [nb], Sub.refl _ _, rfl, HS.out.1.setCell (.inl (by simp)) _, ?_⟩
      try rw [List.length_append]
      rw [HI.out.2]
      exact cell1_set HS.out.2 _
    · have q0 := cell_of (j := 0) (v := .int .u64 82) hb6 rfl
      have q1 := free_of hb6 0
      clear hb6
      have e1 : List.getD [((8 : Int), (2 : Int)), (9, 3)] 1 (0, 0) = (9, 3) := rfl
      rw [e1]
      gi_wp2
      refine ⟨(Ext.refl _ _).setCell (.inl (by simp)) _, [nb], Sub.refl _ _, rfl, HS.out.1.setCell (.inl (by simp)) _, ?_⟩
      try rw [List.length_append]
      rw [HI.out.2]
      exact cell1_set HS.out.2 _
  · intro D mm xs W' hD hx hi hdD
    obtain ⟨rfl, hE, hb⟩ := hi
    rw [show xs = _ from hx, encW_len _ _ (Nat.le_refl _)] at hb
    have k0 := cell_of (j := 0) (v := .int .u64 8293) hb rfl
    have hnb : nb < W4.heap.size := lt_of_block H4.out.2.2.2.1
    have H8 : Hid (IntsAt W' la [0, 1, 2] ∧ TcAt W' 0 ca wl4 ∧ Ext [] w W') := by
      refine ⟨H4.out.2.1.ext hE (fun p hp => by simpa using HLT.out.1 p hp), H4.out.2.2.1.ext hE (fun q hq => .inr ⟨Nat.zero_le _, fun cur h => ?_⟩), H4.out.1.trans' hE (fun j hj => .inr ?_)⟩
      · simp at hq
        subst hq
        rw [H4.out.2.2.2.1] at h
        simp at h
      · simp at hj
        subst hj
        exact HLT.out.2.2
    have HD := Lib.hid (And.intro hdD (show w.heap.size ≤ D from Nat.le_trans H4.out.1.size hD))
    clear hE hb hx hD hdD hnb
    have hX : Ext [] W' W' := Ext.refl _ _
    go_wp2_with (first
    | (go_at_call 21; refine (la_store _ _ _).mono ?_; rintro e w' ⟨rfl, hE⟩; replace hX := hX.trans hE; clear hE)
    | (go_at_call 28; refine (la_flush _ _).mono ?_; rintro e w' ⟨rfl, hE⟩; replace hX := hX.trans hE; clear hE)
    | (go_at_call 20; refine (la_fence _).mono ?_; rintro e w' ⟨rfl, hE⟩; replace hX := hX.trans hE; clear hE)
    | (go_at_call 13; refine (la_num _ _).mono ?_; rintro e w' ⟨rfl, rfl⟩)
    | (go_at_call 26; refine (wk_ints _ _ _ (H8.out.1.ext hX (fun _ _ => by simp))).mono ?_; rintro e w' ⟨rfl, hE⟩; replace hX := hX.trans hE; clear hE)
    | (go_at_call 17; refine (wk_same 0 _ _ _ (H8.out.2.1.ext0 hX)).mono ?_; rintro e w' ⟨rfl, hE⟩; replace hX := hX.trans hE; clear hE; have k0 := hX.cell k0 (by simp))
    | (go_at_call 14; (first | refine (wk_ord4 _).mono ?_ | refine (wk_ord5 _).mono ?_); rintro e w' ⟨rfl, hE⟩; replace hX := hX.trans hE; clear hE)
    | (go_at_call 22; (first | refine (wk_chk6 _).mono ?_ | refine (wk_chk7 _).mono ?_); rintro e w' ⟨rfl, hE⟩; replace hX := hX.trans hE; clear hE))
    have HX := Lib.hid hX
    show LeavesInM _ _ _ _ _ _ _ _ _
    refine leaves_marks (v := .bool true) [D] _ (fun D' hD' => ?_) (by simp) (fun w' hE' => ⟨by rw [results_tmp Try.results10 _ _ _ rfl]; rfl, rfl, ?_⟩)
    · rw [List.mem_singleton.1 hD']
      exact HX.out.at HD.out.1 (by simp)
    · exact (H8.out.2.2.trans HX.out).trans' hE' (fun j hj => .inr (by simp at hj; subst hj; exact HD.out.2))
  · intro D c' W' hD h
    exact h.elim
end Go.Proofs.Ytmfbgkcphiomaaa
