/- The chapter 20 rows hold (works); num. -/
import Derived.Test.YtfojmjkcjdehaaaFcG
namespace Go.Proofs.Ytfojmjkcjdehaaa
open Go Go.RowKit Go.Shelf
attribute [local go_sem] Oper.semAt_some

theorem fb_num (n : Int) (w : World) : Calls Try.prog 36 #[.int .i64 n] w fun e w' => e = .returned (.int .i64 n) ∧ w = w' := by
  go_enter Try.func36, Try.ntmps36
  go_wp2
  go_ret
  exact ⟨rfl, rfl⟩
set_option maxHeartbeats 400000 in
theorem fb_LeftC (f n : Nat) (lo : Option Addr) (lc : Nat) (x : Value) (w : World) (h : w.heap[f]? = some (.cells #[.slice lo n lc, x, .bool true] 109 (0, 0))) :
    Calls Try.prog 39 #[.pointer (some ⟨f, 0, none⟩)] w fun e w' => e = .returned (.int .i64 n) ∧ w = w' := by
  obtain ⟨k0, k1, k2⟩ := three' h
  have HN : Hid (Calls Try.prog 90 #[.pointer (some ⟨f, 0, none⟩)] w fun e w' => e = .returned (.bool false) ∧ w = w') := by
    show Calls _ _ _ _ _
    go_enter Try.func90, Try.ntmps90
    go_wp2
    go_ret
    exact ⟨rfl, rfl⟩
  clear h
  go_enter Try.func39, Try.ntmps39
  go_wp2_with fail
  refine HN.out.mono ?_
  rintro e w' ⟨rfl, rfl⟩
  go_wp2
  go_ret
  exact ⟨rfl, rfl⟩
def wkL : List Tch := [⟨2, 9, 5⟩, ⟨1, 9, 0⟩, ⟨2, 99, 1⟩]
def wkD0 : Dv := dvNew 2
theorem wk_c : tcheck wkL = 0 := by decide
theorem wk_1 : fstep wkL [] wkD0 = ⟨⟨2, 9, 5⟩, 0, [⟨1, 9, 0⟩, ⟨2, 99, 1⟩], [⟨2, 9, 5⟩], wkD0.put 9 5⟩ := rfl
theorem wk_2 : fstep [⟨1, 9, 0⟩, ⟨2, 99, 1⟩] [⟨2, 9, 5⟩] (wkD0.put 9 5) = ⟨⟨1, 9, 5⟩, 0, [⟨2, 99, 1⟩], [⟨2, 9, 5⟩, ⟨1, 9, 5⟩], wkD0.put 9 5⟩ := rfl
theorem wk_3 : fstep [⟨2, 99, 1⟩] [⟨2, 9, 5⟩, ⟨1, 9, 5⟩] (wkD0.put 9 5) = ⟨⟨0, 0, 0⟩, 4, [⟨2, 99, 1⟩], [⟨2, 9, 5⟩, ⟨1, 9, 5⟩], wkD0.put 9 5⟩ := rfl
theorem wk_4 : thenE [⟨2, 99, 1⟩] [⟨2, 9, 5⟩, ⟨1, 9, 5⟩] [⟨4, 0, 0⟩] = 0 := by decide
set_option maxRecDepth 100000 in
set_option maxHeartbeats 4000000 in
theorem fb_works (w : World) : Calls Try.prog 34 #[] w fun e w' => e = .returned (.bool true) ∧ Ext [] w w' := by
  have HN2 : Hid (∀ w : World, Calls Try.prog 14 #[.int .i64 2] w fun e w' => e = .returned (.tuple #[.pointer (some ⟨w.heap.size + 2, 0, none⟩), .int .i64 0]) ∧ Ext [] w w' ∧ ∃ lb sb, DevAt w' (w.heap.size + 2) lb sb (dvNew 2) ∧ w.heap.size ≤ lb ∧ w.heap.size ≤ sb) := fun w => pm_New 2 w (by omega) (by omega)
  go_enter Try.func34, Try.ntmps34
  go_wp2_with fail
  refine (HN2.out _).mono ?_
  rintro e w1 ⟨rfl, hE1, lb, sb, hD1, hl1, hs1⟩
  obtain ⟨d, hd⟩ : ∃ d, w.heap.size + 2 = d := ⟨_, rfl⟩
  rw [hd] at hD1 ⊢
  have H1 := Lib.hid (And.intro hE1 (And.intro hD1 (And.intro (show w.heap.size ≤ d by omega) (And.intro hl1 hs1))))
  clear hE1 hD1 hl1 hs1 hd HN2
  obtain ⟨w4, hw4⟩ : ∃ w4, ((w1.alloc (.cells #[.int .i64 2, .int .i64 9, .int .u64 5] 82)).alloc (.cells #[.int .i64 1, .int .i64 9, .int .u64 0] 82)).alloc (.cells #[.int .i64 2, .int .i64 9, .int .u64 5, .int .i64 1, .int .i64 9, .int .u64 0, .int .i64 2, .int .i64 99, .int .u64 1] 82) = w4 := ⟨_, rfl⟩
  obtain ⟨b3, hb3⟩ : ∃ b3, w1.heap.size = b3 := ⟨_, rfl⟩
  have H4 : Hid (Ext [] w1 w4 ∧ w4.heap[b3]? = some (.cells #[.int .i64 2, .int .i64 9, .int .u64 5] 82 (0, 0)) ∧ w4.heap[b3 + 1]? = some (.cells #[.int .i64 1, .int .i64 9, .int .u64 0] 82 (0, 0)) ∧ w4.heap[b3 + 1 + 1]? = some (.cells #[.int .i64 2, .int .i64 9, .int .u64 5, .int .i64 1, .int .i64 9, .int .u64 0, .int .i64 2, .int .i64 99, .int .u64 1] 82 (0, 0))) := by
    rw [← hw4, ← hb3]
    have h := al3_heap (w := w1) #[.int .i64 2, .int .i64 9, .int .u64 5] #[.int .i64 1, .int .i64 9, .int .u64 0] #[.int .i64 2, .int .i64 9, .int .u64 5, .int .i64 1, .int .i64 9, .int .u64 0, .int .i64 2, .int .i64 99, .int .u64 1] 82 82 82
    exact ⟨(((Ext.refl [] w1).alloc _).alloc _).alloc _, h.1, h.2.1, h.2.2.1⟩
  go_wp2_with fail
  try rw [hw4]
  try rw [hb3]
  clear hw4
  have HN := Lib.hid (fb_New w.heap.size (some ⟨b3 + 1 + 1, 0, none⟩) 3 wkL w4 (TcAt.lit (L := wkL) H4.out.2.2.2) (by have := H1.out.1.size; have := H4.out.1.size; omega) wk_c)
  refine HN.out.mono ?_
  rintro e w5 ⟨f, rfl, hF5, hE5, hf5⟩
  have H5 : Hid (FD w5 w.heap.size f d lb sb wkL [] wkD0 ∧ Ext [] w w5 ∧ w5.heap[b3]? = some (.cells #[.int .i64 2, .int .i64 9, .int .u64 5] 82 (0, 0)) ∧ w5.heap[b3 + 1]? = some (.cells #[.int .i64 1, .int .i64 9, .int .u64 0] 82 (0, 0))) :=
    ⟨⟨hF5, (H1.out.2.1.ext0 H4.out.1).ext0 hE5, dvNew_ok (by omega) (by omega), H1.out.2.2.1, H1.out.2.2.2.1, H1.out.2.2.2.2⟩, (H1.out.1.trans H4.out.1).trans hE5, hE5.at H4.out.2.1 (by simp), hE5.at H4.out.2.2.1 (by simp)⟩
  have HB3 : Hid (w.heap.size ≤ b3) := by have := H1.out.1.size; exact (by omega : w.heap.size ≤ b3)
  clear hF5 hE5 hf5 HN hb3
  have hs0 := fb_StepF w.heap.size f d lb sb wkL [] wkD0 w5 H5.out.1 (by simp)
  rw [wk_1] at hs0
  have HS0 := Lib.hid hs0
  clear hs0
  go_wp2_with fail
  refine HS0.out.mono ?_
  rintro e w6 ⟨rfl, hF6, hE6⟩
  have H6 : Hid (FD w6 w.heap.size f d lb sb [⟨1, 9, 0⟩, ⟨2, 99, 1⟩] [⟨2, 9, 5⟩] (wkD0.put 9 5) ∧ Ext [] w w6 ∧ w6.heap[b3]? = some (.cells #[.int .i64 2, .int .i64 9, .int .u64 5] 82 (0, 0)) ∧ w6.heap[b3 + 1]? = some (.cells #[.int .i64 1, .int .i64 9, .int .u64 0] 82 (0, 0))) :=
    ⟨hF6, H5.out.2.1.trans' hE6 (fun q hq => .inr (by have h1 := H5.out.1.fib.1; have h2 := H5.out.1.hd; have h3 := H5.out.1.hl; have h4 := H5.out.1.hs; simp at hq; omega)), hE6.at H5.out.2.2.1 (H5.out.1.keep H5.out.2.2.1), hE6.at H5.out.2.2.2 (H5.out.1.keep H5.out.2.2.2)⟩
  clear hF6 hE6 HS0
  go_upto_region 5 with fail
  obtain ⟨w7, hw7⟩ : ∃ w7, w6.alloc (.cells #[.int .i64 2, .int .i64 9, .int .u64 5] 82) = w7 := ⟨_, rfl⟩
  obtain ⟨b7, hb7⟩ : ∃ b7, w6.heap.size = b7 := ⟨_, rfl⟩
  have hE7 : Ext [] w6 w7 := by rw [← hw7]; exact (Ext.refl _ _).alloc _
  have hbl7 : w7.heap[b7]? = some (.cells #[.int .i64 2, .int .i64 9, .int .u64 5] 82 (0, 0)) := by rw [← hw7, ← hb7]; exact World.alloc_heap_new _ _
  try rw [hw7]
  try rw [hb7]
  have H7 : Hid (FD w7 w.heap.size f d lb sb [⟨1, 9, 0⟩, ⟨2, 99, 1⟩] [⟨2, 9, 5⟩] (wkD0.put 9 5) ∧ Ext [] w w7 ∧ w7.heap[b3]? = some (.cells #[.int .i64 2, .int .i64 9, .int .u64 5] 82 (0, 0)) ∧ w7.heap[b3 + 1]? = some (.cells #[.int .i64 1, .int .i64 9, .int .u64 0] 82 (0, 0)) ∧ w7.heap[b7]? = some (.cells #[.int .i64 2, .int .i64 9, .int .u64 5] 82 (0, 0))) := ⟨H6.out.1.ext0 hE7, H6.out.2.1.trans hE7, hE7.at H6.out.2.2.1 (by simp), hE7.at H6.out.2.2.2 (by simp), hbl7⟩
  have HB7 : Hid (b3 + 1 < b7) := by have := lt_of_block H6.out.2.2.2; exact (by omega : b3 + 1 < b7)
  clear hE7 hbl7 hw7 hb7 H5
  have hs1 := fb_StepF w.heap.size f d lb sb [⟨1, 9, 0⟩, ⟨2, 99, 1⟩] [⟨2, 9, 5⟩] (wkD0.put 9 5) w7 H7.out.1 (by simp)
  rw [wk_2] at hs1
  have HS1 := Lib.hid hs1
  clear hs1
  go_wp2_with fail
  refine HS1.out.mono ?_
  rintro e w8 ⟨rfl, hF8, hE8⟩
  have H8 : Hid (FD w8 w.heap.size f d lb sb [⟨2, 99, 1⟩] [⟨2, 9, 5⟩, ⟨1, 9, 5⟩] (wkD0.put 9 5) ∧ Ext [] w w8 ∧ w8.heap[b3]? = some (.cells #[.int .i64 2, .int .i64 9, .int .u64 5] 82 (0, 0)) ∧ w8.heap[b3 + 1]? = some (.cells #[.int .i64 1, .int .i64 9, .int .u64 0] 82 (0, 0)) ∧ w8.heap[b7]? = some (.cells #[.int .i64 2, .int .i64 9, .int .u64 5] 82 (0, 0))) :=
    ⟨hF8, H7.out.2.1.trans' hE8 (fun q hq => .inr (by have h1 := H7.out.1.fib.1; have h2 := H7.out.1.hd; have h3 := H7.out.1.hl; have h4 := H7.out.1.hs; simp at hq; omega)), hE8.at H7.out.2.2.1 (H7.out.1.keep H7.out.2.2.1), hE8.at H7.out.2.2.2.1 (H7.out.1.keep H7.out.2.2.2.1), hE8.at H7.out.2.2.2.2 (H7.out.1.keep H7.out.2.2.2.2)⟩
  clear hF8 hE8 HS1
  go_upto_region 6 with fail
  obtain ⟨w9, hw9⟩ : ∃ w9, w8.alloc (.cells #[.int .i64 1, .int .i64 9, .int .u64 5] 82) = w9 := ⟨_, rfl⟩
  obtain ⟨b9, hb9⟩ : ∃ b9, w8.heap.size = b9 := ⟨_, rfl⟩
  have hE9 : Ext [] w8 w9 := by rw [← hw9]; exact (Ext.refl _ _).alloc _
  have hbl9 : w9.heap[b9]? = some (.cells #[.int .i64 1, .int .i64 9, .int .u64 5] 82 (0, 0)) := by rw [← hw9, ← hb9]; exact World.alloc_heap_new _ _
  try rw [hw9]
  try rw [hb9]
  have H9 : Hid (FD w9 w.heap.size f d lb sb [⟨2, 99, 1⟩] [⟨2, 9, 5⟩, ⟨1, 9, 5⟩] (wkD0.put 9 5) ∧ Ext [] w w9 ∧ w9.heap[b3]? = some (.cells #[.int .i64 2, .int .i64 9, .int .u64 5] 82 (0, 0)) ∧ w9.heap[b3 + 1]? = some (.cells #[.int .i64 1, .int .i64 9, .int .u64 0] 82 (0, 0)) ∧ w9.heap[b7]? = some (.cells #[.int .i64 2, .int .i64 9, .int .u64 5] 82 (0, 0)) ∧ w9.heap[b9]? = some (.cells #[.int .i64 1, .int .i64 9, .int .u64 5] 82 (0, 0))) := ⟨H8.out.1.ext0 hE9, H8.out.2.1.trans hE9, hE9.at H8.out.2.2.1 (by simp), hE9.at H8.out.2.2.2.1 (by simp), hE9.at H8.out.2.2.2.2 (by simp), hbl9⟩
  have HB9 : Hid (b3 + 1 < b9) := by have := lt_of_block H8.out.2.2.2.1; exact (by omega : b3 + 1 < b9)
  clear hE9 hbl9 hw9 hb9 H7
  have hs2 := fb_StepF w.heap.size f d lb sb [⟨2, 99, 1⟩] [⟨2, 9, 5⟩, ⟨1, 9, 5⟩] (wkD0.put 9 5) w9 H9.out.1 (by simp)
  rw [wk_3] at hs2
  have HS2 := Lib.hid hs2
  clear hs2
  go_wp2_with fail
  refine HS2.out.mono ?_
  rintro e w10 ⟨rfl, hF10, hE10⟩
  have H10 : Hid (FD w10 w.heap.size f d lb sb [⟨2, 99, 1⟩] [⟨2, 9, 5⟩, ⟨1, 9, 5⟩] (wkD0.put 9 5) ∧ Ext [] w w10 ∧ w10.heap[b3]? = some (.cells #[.int .i64 2, .int .i64 9, .int .u64 5] 82 (0, 0)) ∧ w10.heap[b3 + 1]? = some (.cells #[.int .i64 1, .int .i64 9, .int .u64 0] 82 (0, 0)) ∧ w10.heap[b7]? = some (.cells #[.int .i64 2, .int .i64 9, .int .u64 5] 82 (0, 0)) ∧ w10.heap[b9]? = some (.cells #[.int .i64 1, .int .i64 9, .int .u64 5] 82 (0, 0))) :=
    ⟨hF10, H9.out.2.1.trans' hE10 (fun q hq => .inr (by have h1 := H9.out.1.fib.1; have h2 := H9.out.1.hd; have h3 := H9.out.1.hl; have h4 := H9.out.1.hs; simp at hq; omega)), hE10.at H9.out.2.2.1 (H9.out.1.keep H9.out.2.2.1), hE10.at H9.out.2.2.2.1 (H9.out.1.keep H9.out.2.2.2.1), hE10.at H9.out.2.2.2.2.1 (H9.out.1.keep H9.out.2.2.2.2.1), hE10.at H9.out.2.2.2.2.2 (H9.out.1.keep H9.out.2.2.2.2.2)⟩
  clear hF10 hE10 HS2
  go_upto_region 7 with fail
  obtain ⟨w11, hw11⟩ : ∃ w11, w10.alloc (.cells #[.int .i64 0, .int .i64 0, .int .u64 0] 82) = w11 := ⟨_, rfl⟩
  obtain ⟨b11, hb11⟩ : ∃ b11, w10.heap.size = b11 := ⟨_, rfl⟩
  have hE11 : Ext [] w10 w11 := by rw [← hw11]; exact (Ext.refl _ _).alloc _
  have hbl11 : w11.heap[b11]? = some (.cells #[.int .i64 0, .int .i64 0, .int .u64 0] 82 (0, 0)) := by rw [← hw11, ← hb11]; exact World.alloc_heap_new _ _
  try rw [hw11]
  try rw [hb11]
  have H11 : Hid (FD w11 w.heap.size f d lb sb [⟨2, 99, 1⟩] [⟨2, 9, 5⟩, ⟨1, 9, 5⟩] (wkD0.put 9 5) ∧ Ext [] w w11 ∧ w11.heap[b3]? = some (.cells #[.int .i64 2, .int .i64 9, .int .u64 5] 82 (0, 0)) ∧ w11.heap[b3 + 1]? = some (.cells #[.int .i64 1, .int .i64 9, .int .u64 0] 82 (0, 0)) ∧ w11.heap[b7]? = some (.cells #[.int .i64 2, .int .i64 9, .int .u64 5] 82 (0, 0)) ∧ w11.heap[b9]? = some (.cells #[.int .i64 1, .int .i64 9, .int .u64 5] 82 (0, 0)) ∧ w11.heap[b11]? = some (.cells #[.int .i64 0, .int .i64 0, .int .u64 0] 82 (0, 0))) := ⟨H10.out.1.ext0 hE11, H10.out.2.1.trans hE11, hE11.at H10.out.2.2.1 (by simp), hE11.at H10.out.2.2.2.1 (by simp), hE11.at H10.out.2.2.2.2.1 (by simp), hE11.at H10.out.2.2.2.2.2 (by simp), hbl11⟩
  have HB11 : Hid (b3 + 1 < b11) := by have := lt_of_block H10.out.2.2.2.1; exact (by omega : b3 + 1 < b11)
  clear hE11 hbl11 hw11 hb11 H9
  go_wp2_with fail
  refine (fb_Left f w.heap.size [⟨2, 99, 1⟩] [⟨2, 9, 5⟩, ⟨1, 9, 5⟩] w11 H11.out.1.fib).mono ?_
  rintro e w' ⟨rfl, rfl⟩
  obtain ⟨w12, hw12⟩ : ∃ w12, w11.alloc (.cells #[.int .i64 4, .int .i64 0, .int .u64 0] 82) = w12 := ⟨_, rfl⟩
  obtain ⟨b12, hb12⟩ : ∃ b12, w11.heap.size = b12 := ⟨_, rfl⟩
  have hE12 : Ext [] w11 w12 := by rw [← hw12]; exact (Ext.refl _ _).alloc _
  have hbl12 : w12.heap[b12]? = some (.cells #[.int .i64 4, .int .i64 0, .int .u64 0] 82 (0, 0)) := by rw [← hw12, ← hb12]; exact World.alloc_heap_new _ _
  have HT := fb_Then f w.heap.size [⟨2, 99, 1⟩] [⟨2, 9, 5⟩, ⟨1, 9, 5⟩] (some ⟨b12, 0, none⟩) 1 [⟨4, 0, 0⟩] w12 (H11.out.1.ext0 hE12).fib (TcAt.one hbl12) (by simp) (by simp) (by simp)
  rw [wk_4] at HT
  have H12 := Lib.hid (And.intro hE12 HT)
  clear hE12 hbl12 HT
  go_wp2_with fail
  try rw [hw12]
  try rw [hb12]
  refine H12.out.2.mono ?_
  rintro e w13 ⟨rfl, hT13, hE13⟩
  have hF13 : FibAt w13 w.heap.size f [⟨2, 99, 1⟩, ⟨4, 0, 0⟩] [⟨2, 9, 5⟩, ⟨1, 9, 5⟩] := by
    unfold ThenP at hT13
    rw [if_pos wk_4] at hT13
    exact hT13
  have hnf : ∀ (b : Nat) (cs : Array Value), w11.heap[b]? = some (.cells cs 82 (0, 0)) → b ∉ [f] := fun b cs hb hm => H11.out.1.keep hb (by simp at hm; simp [hm])
  have hE1113 : Ext [f] w11 w13 := H12.out.1.wide.trans hE13
  have g0 := hE1113.at H11.out.2.2.1 (hnf _ _ H11.out.2.2.1)
  have g1 := hE1113.at H11.out.2.2.2.1 (hnf _ _ H11.out.2.2.2.1)
  have g2 := hE1113.at H11.out.2.2.2.2.1 (hnf _ _ H11.out.2.2.2.2.1)
  have g3 := hE1113.at H11.out.2.2.2.2.2.1 (hnf _ _ H11.out.2.2.2.2.2.1)
  have g4 := hE1113.at H11.out.2.2.2.2.2.2 (hnf _ _ H11.out.2.2.2.2.2.2)
  obtain ⟨v0, v1, v2⟩ := three' g1
  have f2 := free_of g1 2
  obtain ⟨w14, hw14⟩ : ∃ w14, w13.setCell ⟨b3 + 1, 2, none⟩ (.int .u64 5) = w14 := ⟨_, rfl⟩
  have hE14 : Ext [b3 + 1] w13 w14 := by rw [← hw14]; exact (Ext.refl [b3 + 1] w13).setCell (.inl (by simp)) _
  have hg1 : w14.heap[b3 + 1]? = some (.cells #[.int .i64 1, .int .i64 9, .int .u64 5] 82 (0, 0)) := by rw [← hw14]; exact tri_set2 g1 _
  have hb3n : b3 ∉ [b3 + 1] := by simp
  have hb7n : b7 ∉ [b3 + 1] := by have := HB7.out; simp; omega
  have hb9n : b9 ∉ [b3 + 1] := by have := HB9.out; simp; omega
  have hE1114 : Ext [] w w14 := (H11.out.2.1.trans' hE1113 (fun q hq => .inr (by have := H11.out.1.fib.1; simp at hq; omega))).trans' hE14 (fun q hq => .inr (by have := HB3.out; simp at hq; omega))
  obtain ⟨_, lo, lc, po, pc, h1, _⟩ := hF13
  have hfb := hE14.at h1 (fun hq => hnf _ _ H11.out.2.2.2.1 (by simp at hq; simp [hq]))
  have HL := Lib.hid (fb_LeftC f 2 lo lc _ w14 hfb)
  obtain ⟨x0, x1, x2⟩ := three' (hE14.at g0 hb3n)
  obtain ⟨y0, y1, y2⟩ := three' hg1
  obtain ⟨z0, z1, z2⟩ := three' (hE14.at g2 hb7n)
  obtain ⟨u0, u1, u2⟩ := three' (hE14.at g3 hb9n)
  have H14 := Lib.hid hE1114
  have heq1 : ∀ w, (binOp .eql 82 (.agg #[.int .i64 2, .int .i64 9, .int .u64 5]) (.agg #[.int .i64 2, .int .i64 9, .int .u64 5])).run Try.prog w = .ok (.bool true) w := fun w => by rw [eqTch]; rfl
  have heq2 : ∀ w, (binOp .eql 82 (.agg #[.int .i64 1, .int .i64 9, .int .u64 5]) (.agg #[.int .i64 1, .int .i64 9, .int .u64 5])).run Try.prog w = .ok (.bool true) w := fun w => by rw [eqTch]; rfl
  clear hT13 hE13 hE14 hg1 hb3n hb7n hb9n hE1114 hE1113 h1 hfb hnf g0 g1 g2 g3 H12 hw12 hb12
  go_wp2_with (first
    | (go_at_call 36; refine (fb_num _ _).mono ?_; rintro e w' ⟨rfl, rfl⟩)
    | (go_at_call 39; refine HL.out.mono ?_; rintro e w' ⟨rfl, rfl⟩))
  go_ret
  exact ⟨rfl, H14.out⟩
end Go.Proofs.Ytfojmjkcjdehaaa
