/- Package fibre: New, Next. -/
import Derived.Test.YtfojmjkcjdehaaaFbC
namespace Go.Proofs.Ytfojmjkcjdehaaa
open Go Go.RowKit Go.Shelf
attribute [local go_sem] Oper.semAt_some

set_option maxRecDepth 100000 in
set_option maxHeartbeats 800000 in
theorem fb_New_bad (N : Nat) (ao : Option Addr) (cap : Nat) (L : List Tch) (w : World) (hL : TcAt w N ao L) (hl : L.length ≤ 9223372036854775807) (h : tcheck L ≠ 0) :
    Calls Try.prog 35 #[.slice ao L.length cap] w fun e w' => e = .returned (.tuple #[.pointer none, .int .i64 (tcheck L)]) ∧ Ext [] w w' := by
  have HC := Lib.hid (tc_Check N ao cap L w hL hl)
  generalize tcheck L = tc at *
  generalize L.length = n at *
  have hne : (tc != 0) = true := by simpa using h
  clear h hL hl
  go_enter Try.func35, Try.ntmps35
  go_wp2_with fail
  refine HC.out.mono ?_
  rintro e w1 ⟨rfl, hE1⟩
  go_wp2
  go_ret2
  exact ⟨rfl, hE1⟩
set_option maxRecDepth 100000 in
set_option maxHeartbeats 800000 in
theorem fb_New (N : Nat) (ao : Option Addr) (cap : Nat) (L : List Tch) (w : World) (hL : TcAt w N ao L) (hN : N ≤ w.heap.size) (h : tcheck L = 0) :
    Calls Try.prog 35 #[.slice ao L.length cap] w fun e w' => ∃ f, e = .returned (.tuple #[.pointer (some ⟨f, 0, none⟩), .int .i64 0]) ∧ FibAt w' N f L [] ∧ Ext [] w w' ∧ w.heap.size ≤ f := by
  have hlen := (tcheck_zero h).2
  have HC := Lib.hid (tc_Check N ao cap L w hL (by omega))
  have HCL := Lib.hid (fun W (hE : Ext [] w W) => fb_clone N ao cap L W (hL.ext0 hE) (by omega))
  rw [h] at HC
  have HN := Lib.hid hN
  clear hN hL hlen h
  go_enter Try.func35, Try.ntmps35
  go_wp2_with fail
  refine HC.out.mono ?_
  rintro e w1 ⟨rfl, hE1⟩
  go_wp2_with fail
  refine (HCL.out _ hE1).mono ?_
  rintro e w2 ⟨v, rfl, hE2, ho⟩
  obtain ⟨co, cc, rfl, hT, hcc, hcb⟩ := ho.at (N := N)
  have H2 := Lib.hid (And.intro (hE1.trans hE2) (And.intro hT hcc))
  clear hE1 hE2 ho hT hcc hcb
  go_wp2
  go_ret2
  have hE3 : Ext [] w2 (w2.alloc (.cells #[.slice co L.length cc, .slice none 0 0, .bool true] 109)) := (Ext.refl _ _).alloc _
  refine ⟨w2.heap.size, rfl, ⟨by have := HN.out; have := H2.out.1.size; omega, co, cc, none, 0, World.alloc_heap_new _ _, H2.out.2.1.ext0 hE3, TcAt.nil' _ _, H2.out.2.2⟩, H2.out.1.trans hE3, H2.out.1.size⟩

set_option maxRecDepth 100000 in
set_option maxHeartbeats 800000 in
theorem fb_Next_none (v : Value) (w : World) (hL : Hid (Calls Try.prog 39 #[v] (w.alloc (.cells #[.int .i64 0, .int .i64 0, .int .u64 0] 82)) fun e w' => e = .returned (.int .i64 0) ∧ (w.alloc (.cells #[.int .i64 0, .int .i64 0, .int .u64 0] 82)) = w')) :
    Calls Try.prog 49 #[v] w fun e w' => e = .returned (.tuple #[.agg #[.int .i64 0, .int .i64 0, .int .u64 0], .bool false]) ∧ Ext [] w w' := by
  obtain ⟨w0, hw0⟩ : ∃ w0, w.alloc (.cells #[.int .i64 0, .int .i64 0, .int .u64 0] 82) = w0 := ⟨_, rfl⟩
  obtain ⟨nb, hnb⟩ : ∃ nb, w.heap.size = nb := ⟨_, rfl⟩
  have hb0 : w0.heap[nb]? = some (.cells #[.int .i64 0, .int .i64 0, .int .u64 0] 82 (0, 0)) := by rw [← hw0, ← hnb]; exact World.alloc_heap_new _ _
  have H0 : Hid (Ext [] w w0 ∧ w0.heap[nb]? = some (.cells #[.int .i64 0, .int .i64 0, .int .u64 0] 82 (0, 0))) := ⟨by rw [← hw0]; exact (Ext.refl _ _).alloc _, hb0⟩
  rw [hw0] at hL
  obtain ⟨m0, m1, m2⟩ := three' hb0
  have f0 := free_of hb0 0
  have f1 := free_of hb0 1
  have f2 := free_of hb0 2
  clear hb0
  go_enter Try.func49, Try.ntmps49
  go_wp2_with fail
  refine hL.out.mono ?_
  rintro e w' ⟨rfl, rfl⟩
  go_wp2
  refine bodyPost_ret (results_ca Try.results49 _ _ nb 82 #[.int .i64 0, .int .i64 0, .int .u64 0] (0, 0) _ _ rfl (tri_set H0.out.2 _ _ _) rfl Try.underlying82 rfl (by kernel_rfl)) rfl ?_
  exact ⟨rfl, ((H0.out.1.setCell (.inr (show w.heap.size ≤ nb by omega)) _).setCell (.inr (show w.heap.size ≤ nb by omega)) _).setCell (.inr (show w.heap.size ≤ nb by omega)) _⟩
set_option maxRecDepth 100000 in
set_option maxHeartbeats 800000 in
theorem fb_Next (f N : Nat) (t : Tch) (r dn : List Tch) (w : World) (h : FibAt w N f (t :: r) dn) :
    Calls Try.prog 49 #[.pointer (some ⟨f, 0, none⟩)] w fun e w' => e = .returned (.tuple #[.agg #[.int .i64 t.kd, .int .i64 t.at', .int .u64 t.wd], .bool true]) ∧ Ext [] w w' := by
  obtain ⟨w0, hw0⟩ : ∃ w0, w.alloc (.cells #[.int .i64 0, .int .i64 0, .int .u64 0] 82) = w0 := ⟨_, rfl⟩
  obtain ⟨nb, hnb⟩ : ∃ nb, w.heap.size = nb := ⟨_, rfl⟩
  have hb0 : w0.heap[nb]? = some (.cells #[.int .i64 0, .int .i64 0, .int .u64 0] 82 (0, 0)) := by rw [← hw0, ← hnb]; exact World.alloc_heap_new _ _
  have hE0 : Ext [] w w0 := by rw [← hw0]; exact (Ext.refl _ _).alloc _
  have H0 := Lib.hid (And.intro hE0 hb0)
  have HL := Lib.hid (fb_Left f N (t :: r) dn w0 (h.ext0 hE0))
  have HH := Lib.hid (fb_head f N t r dn w0 (h.ext0 hE0))
  have hl0 : (((t :: r).length : Int) == 0) = false := by simp; omega
  clear hb0 hE0 h
  go_enter Try.func49, Try.ntmps49
  go_wp2_with fail
  refine HL.out.mono ?_
  rintro e w' ⟨rfl, rfl⟩
  go_wp2_with fail
  refine HH.out.mono ?_
  rintro e w1 ⟨rfl, hE1⟩
  have hb1 := hE1.at H0.out.2 (by simp)
  obtain ⟨m0, m1, m2⟩ := three' hb1
  have f0 := free_of hb1 0
  have f1 := free_of hb1 1
  have f2 := free_of hb1 2
  have H1 := Lib.hid (And.intro (H0.out.1.trans hE1) hb1)
  clear hE1 hb1
  obtain ⟨k, a, x⟩ := t
  dsimp only at *
  go_wp2
  refine bodyPost_ret (results_ca Try.results49 _ _ nb 82 #[.int .i64 k, .int .i64 a, .int .u64 x] (0, 0) _ _ rfl (tri_set H1.out.2 _ _ _) rfl Try.underlying82 rfl (by kernel_rfl)) rfl ?_
  exact ⟨rfl, ((H1.out.1.setCell (.inr (show w.heap.size ≤ nb by omega)) _).setCell (.inr (show w.heap.size ≤ nb by omega)) _).setCell (.inr (show w.heap.size ≤ nb by omega)) _⟩
end Go.Proofs.Ytfojmjkcjdehaaa
