/- redo.Play: what touches do to a device. -/
import Derived.Test.YtfojmjkcjdehaaaTcC
import Derived.Test.YtfojmjkcjdehaaaPgI
import Derived.Test.YtfojmjkcjdehaaaPgW
import Derived.Test.YtfojmjkcjdehaaaOpm
namespace Go.Proofs.Ytfojmjkcjdehaaa
open Go Go.RowKit Go.Shelf
attribute [local go_sem] Oper.semAt_some

theorem DevAt.noTc {w : World} {d lb sb N : Nat} {D : Dv} (h : DevAt w d lb sb D) (hd : N ≤ d) (hl : N ≤ lb) (hs : N ≤ sb) {m : List Nat} (hm : ∀ j ∈ m, j = d ∨ j = lb ∨ j = sb) : NoTc w N m := by
  obtain ⟨⟨cl, cs, wv, h1, _⟩, ⟨c2, h2, _⟩, ⟨c3, h3, _⟩, _⟩ := h
  intro q hq
  rcases hm q hq with rfl | rfl | rfl
  · exact .inr ⟨hd, fun cur hb => by rw [h1] at hb; simp at hb⟩
  · exact .inr ⟨hl, fun cur hb => by rw [h2] at hb; simp at hb⟩
  · exact .inr ⟨hs, fun cur hb => by rw [h3] at hb; simp at hb⟩
theorem DevPost.wide {m : List Nat} {w w' : World} {d lb sb : Nat} {D : Dv} (h : DevPost m w d lb sb D w') (hm : ∀ j, j ∈ m → j ∈ [d, lb, sb]) : DevPost [d, lb, sb] w d lb sb D w' := ⟨h.1, h.2.sub hm⟩

set_option maxRecDepth 100000 in
set_option maxHeartbeats 800000 in
theorem rd_act1 (d lb sb : Nat) (D : Dv) (a x : Int) (w : World) (hD : DevAt w d lb sb D) (hn : DvOk D) :
    Calls Try.prog 116 #[.pointer (some ⟨d, 0, none⟩), .agg #[.int .i64 1, .int .i64 a, .int .u64 x]] w fun e w' => e = .returned (.int .i64 (playOne D ⟨1, a, x⟩).2) ∧ DevPost [d, lb, sb] w d lb sb (playOne D ⟨1, a, x⟩).1 w' := by
  obtain ⟨w0, hw0⟩ : ∃ w0, w.alloc (.cells #[.int .i64 1, .int .i64 a, .int .u64 x] 82) = w0 := ⟨_, rfl⟩
  have hb0 : w0.heap[w.heap.size]? = some (.cells #[.int .i64 1, .int .i64 a, .int .u64 x] 82 (0, 0)) := by rw [← hw0]; exact World.alloc_heap_new _ _
  have hE0 : Ext [] w w0 := by rw [← hw0]; exact (Ext.refl _ _).alloc _
  have k1 := cell_of (j := 1) (v := .int .i64 a) hb0 rfl
  have HL := Lib.hid (pm_Load d lb sb a D w0 (hD.ext0 hE0) hn)
  have H0 := Lib.hid (And.intro hE0 hD)
  clear hb0 hE0 hD
  show Calls _ _ _ _ fun e w' => e = .returned (.int .i64 (D.load a).2) ∧ DevPost [d, lb, sb] w d lb sb D w'
  go_enter Try.func116, Try.ntmps116
  go_wp2_with fail
  refine HL.out.mono ?_
  rintro e w1 ⟨rfl, hE⟩
  go_wp2
  go_ret
  exact ⟨rfl, H0.out.2.ext0 (H0.out.1.trans hE), (H0.out.1.trans hE).wide⟩

set_option maxRecDepth 100000 in
set_option maxHeartbeats 800000 in
theorem rd_act2 (d lb sb : Nat) (D : Dv) (a x : Int) (w : World) (hD : DevAt w d lb sb D) (hn : DvOk D) :
    Calls Try.prog 117 #[.pointer (some ⟨d, 0, none⟩), .agg #[.int .i64 2, .int .i64 a, .int .u64 x]] w fun e w' => e = .returned (.int .i64 (playOne D ⟨2, a, x⟩).2) ∧ DevPost [d, lb, sb] w d lb sb (playOne D ⟨2, a, x⟩).1 w' := by
  obtain ⟨w0, hw0⟩ : ∃ w0, w.alloc (.cells #[.int .i64 2, .int .i64 a, .int .u64 x] 82) = w0 := ⟨_, rfl⟩
  have hb0 : w0.heap[w.heap.size]? = some (.cells #[.int .i64 2, .int .i64 a, .int .u64 x] 82 (0, 0)) := by rw [← hw0]; exact World.alloc_heap_new _ _
  have hE0 : Ext [] w w0 := by rw [← hw0]; exact (Ext.refl _ _).alloc _
  have k1 := cell_of (j := 1) (v := .int .i64 a) hb0 rfl
  have k2 := cell_of (j := 2) (v := .int .u64 x) hb0 rfl
  have HL := Lib.hid (pm_Store d lb sb a x D w0 (hD.ext0 hE0) hn)
  have H0 := Lib.hid hE0
  clear hb0 hE0 hD
  show Calls _ _ _ _ fun e w' => e = .returned (.int .i64 (D.store a x).2) ∧ DevPost [d, lb, sb] w d lb sb (D.store a x).1 w'
  go_enter Try.func117, Try.ntmps117
  go_wp2_with fail
  refine HL.out.mono ?_
  rintro e w1 ⟨rfl, hD1, hE⟩
  go_wp2
  go_ret
  exact ⟨rfl, hD1, H0.out.wide.trans (hE.sub (fun q hq => by simp at hq ⊢; omega))⟩

set_option maxRecDepth 100000 in
set_option maxHeartbeats 800000 in
theorem rd_act3 (d lb sb : Nat) (D : Dv) (a x : Int) (w : World) (hD : DevAt w d lb sb D) (hn : DvOk D) :
    Calls Try.prog 118 #[.pointer (some ⟨d, 0, none⟩), .agg #[.int .i64 3, .int .i64 a, .int .u64 x]] w fun e w' => e = .returned (.int .i64 (playOne D ⟨3, a, x⟩).2) ∧ DevPost [d, lb, sb] w d lb sb (playOne D ⟨3, a, x⟩).1 w' := by
  obtain ⟨w0, hw0⟩ : ∃ w0, w.alloc (.cells #[.int .i64 3, .int .i64 a, .int .u64 x] 82) = w0 := ⟨_, rfl⟩
  have hb0 : w0.heap[w.heap.size]? = some (.cells #[.int .i64 3, .int .i64 a, .int .u64 x] 82 (0, 0)) := by rw [← hw0]; exact World.alloc_heap_new _ _
  have hE0 : Ext [] w w0 := by rw [← hw0]; exact (Ext.refl _ _).alloc _
  have k1 := cell_of (j := 1) (v := .int .i64 a) hb0 rfl
  have HL := Lib.hid (pm_Flush d lb sb a D w0 (hD.ext0 hE0) hn)
  have H0 := Lib.hid hE0
  clear hb0 hE0 hD
  show Calls _ _ _ _ fun e w' => e = .returned (.int .i64 (D.flush a).2) ∧ DevPost [d, lb, sb] w d lb sb (D.flush a).1 w'
  go_enter Try.func118, Try.ntmps118
  go_wp2_with fail
  refine HL.out.mono ?_
  rintro e w1 ⟨rfl, hD1, hE⟩
  go_wp2
  go_ret
  exact ⟨rfl, hD1, H0.out.wide.trans (hE.sub (fun q hq => by simp at hq ⊢; omega))⟩

set_option maxRecDepth 100000 in
set_option maxHeartbeats 800000 in
theorem rd_act4 (d lb sb : Nat) (D : Dv) (a x : Int) (w : World) (hD : DevAt w d lb sb D) (hn : DvOk D) :
    Calls Try.prog 119 #[.pointer (some ⟨d, 0, none⟩), .agg #[.int .i64 4, .int .i64 a, .int .u64 x]] w fun e w' => e = .returned (.int .i64 (playOne D ⟨4, a, x⟩).2) ∧ DevPost [d, lb, sb] w d lb sb (playOne D ⟨4, a, x⟩).1 w' := by
  obtain ⟨w0, hw0⟩ : ∃ w0, w.alloc (.cells #[.int .i64 4, .int .i64 a, .int .u64 x] 82) = w0 := ⟨_, rfl⟩
  have hE0 : Ext [] w w0 := by rw [← hw0]; exact (Ext.refl _ _).alloc _
  have HL := Lib.hid (pm_Fence_in d lb sb D w0 (hD.ext0 hE0) hn)
  have H0 := Lib.hid hE0
  clear hE0 hD
  show Calls _ _ _ _ fun e w' => e = .returned (.int .i64 0) ∧ DevPost [d, lb, sb] w d lb sb D.fence w'
  go_enter Try.func119, Try.ntmps119
  go_wp2_with fail
  refine HL.out.mono ?_
  rintro e w1 ⟨rfl, hD1, hE⟩
  go_wp2
  go_ret
  exact ⟨rfl, hD1, H0.out.wide.trans (hE.sub (fun q hq => by simp at hq ⊢; omega))⟩

/-- what each kind of touch does, as a map -/
def actsE : Ents := [(1, .func (.func 116) #[] #[]), (2, .func (.func 117) #[] #[]), (3, .func (.func 118) #[] #[]), (4, .func (.func 119) #[] #[])]
set_option maxRecDepth 100000 in
set_option maxHeartbeats 800000 in
theorem rd_acts (w : World) : Calls Try.prog 87 #[] w fun e w' => ∃ mb, e = .returned (.map (some mb)) ∧ IMap w' mb actsE ∧ Ext [] w w' ∧ w.heap.size ≤ mb := by
  have hmm := @run_makeMap Try.prog
  obtain ⟨w1, s1, E1, I1, _⟩ := run_mapSet' (P := Try.prog) 145 80 147 Try.underlying145 Try.underlying80 (IMap.made w) 1 (.func (.func 116) #[] #[])
  obtain ⟨w2, s2, E2, I2, _⟩ := run_mapSet' (P := Try.prog) 145 80 147 Try.underlying145 Try.underlying80 I1 2 (.func (.func 117) #[] #[])
  obtain ⟨w3, s3, E3, I3, _⟩ := run_mapSet' (P := Try.prog) 145 80 147 Try.underlying145 Try.underlying80 I2 3 (.func (.func 118) #[] #[])
  obtain ⟨w4, s4, E4, I4, _⟩ := run_mapSet' (P := Try.prog) 145 80 147 Try.underlying145 Try.underlying80 I3 4 (.func (.func 119) #[] #[])
  have HF : Hid (IMap w4 w.heap.size actsE ∧ Ext [] w w4) := ⟨I4, ((Ext.refl [] w).alloc (.map #[] 0)).trans' (((E1.trans E2).trans E3).trans E4) (fun q hq => .inr (by simp at hq; omega))⟩
  clear E1 E2 E3 E4 I1 I2 I3 I4
  go_enter Try.func87, Try.ntmps87
  go_wp2
  go_ret
  exact ⟨_, rfl, HF.out.1, HF.out.2, Nat.le_refl _⟩

set_option maxRecDepth 100000 in
set_option maxHeartbeats 400000 in
theorem rd_Play_none (bo : Option Addr) (v : Value) (w : World) (h : NoneD w (.pointer bo)) : Calls Try.prog 37 #[.pointer bo, v] w fun e w' => e = .returned (.int .i64 1) ∧ Ext [] w w' := by
  have HS := Lib.hid (pm_Same_nn bo none w h (.inl rfl))
  clear h
  go_enter Try.func37, Try.ntmps37
  go_wp2_with fail
  refine HS.out.mono ?_
  rintro e w' ⟨rfl, rfl⟩
  go_wp2
  go_ret
  exact ⟨rfl, Ext.refl _ _⟩
/-- what Play tells -/
def playE (D : Dv) (L : List Tch) : Int := if tcheck L = 0 then (playL D L).2 else tcheck L
def playD (D : Dv) (L : List Tch) : Dv := if tcheck L = 0 then (playL D L).1 else D
end Go.Proofs.Ytfojmjkcjdehaaa
