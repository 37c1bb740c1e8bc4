/- The chapter 4 rows hold (works); num, none5. The law's act: a call by both: what it says; few. The law's act: Store, Flush, Evict. -/
import Derived.Test.YtfojmjkcjdehaaaPhI
import Derived.StillTailTactics
namespace Go.Proofs.Ytfojmjkcjdehaaa
open Go Go.RowKit Go.Shelf
attribute [local go_sem] Oper.semAt_some

theorem pm_num (n : Int) (w : World) : Calls Try.prog 19 #[.int .i64 n] w fun e w' => e = .returned (.int .i64 n) ∧ w = w' := by
  go_enter Try.func19, Try.ntmps19
  go_wp2
  go_ret
  exact ⟨rfl, rfl⟩
set_option maxHeartbeats 400000 in
theorem pm_none5 (w : World) : Calls Try.prog 16 #[] w fun e w' => ∃ v', e = .returned v' ∧ Ext [] w w' ∧ RefAt w' v' (dvNew 5) := by
  obtain ⟨W0, hw0⟩ : ∃ W0, w.alloc (.cells #[.slice none 0 0, .slice none 0 0, .slice none 0 0] 33) = W0 := ⟨_, rfl⟩
  have hE0 : Ext [] w W0 := by rw [← hw0]; exact (Ext.refl [] w).alloc _
  have hb0 : W0.heap[w.heap.size]? = some (.cells #[.slice none 0 0, .slice none 0 0, .slice none 0 0] 33 (0, 0)) := by rw [← hw0]; exact World.alloc_heap_new _ _
  have H0 := Lib.hid (And.intro hE0 hb0)
  have HN : Hid (∀ w : World, Calls Try.prog 27 #[.int .i64 5] w fun e w' => ∃ v', e = .returned v' ∧ Ext [] w w' ∧ RefAt w' v' (dvNew 5)) := fun w => rf_New 5 w (by omega) (by omega)
  clear hE0 hb0
  generalize dvNew 5 = D at *
  go_enter Try.func16, Try.ntmps16
  go_wp2_with fail
  refine (HN.out _).mono ?_
  rintro e w1 ⟨v', rfl, hE1, hR1⟩
  have hR := hR1
  obtain ⟨sg, sc, tg, tc, wo, wc, rfl, _, _, _⟩ := hR1
  have hb1 := hE1.at H0.out.2 (by simp)
  obtain ⟨m0, m1, m2⟩ := three hb1
  have f0 := free_of hb1 0
  have f1 := free_of hb1 1
  have f2 := free_of hb1 2
  have H1 := Lib.hid (And.intro hE1 (And.intro hb1 hR))
  clear hE1 hb1 hR hw0
  go_wp2
  have hE2 := ext_three (H0.out.1.trans H1.out.1) (g := w.heap.size) (.inr (Nat.le_refl _)) (.slice (some ⟨sg, 0, none⟩) D.n sc) (.slice (some ⟨tg, 0, none⟩) D.n tc) (.slice wo D.W.length wc)
  have hE3 := ext_three (Ext.refl [w.heap.size] w1) (g := w.heap.size) (.inl (by simp)) (.slice (some ⟨sg, 0, none⟩) D.n sc) (.slice (some ⟨tg, 0, none⟩) D.n tc) (.slice wo D.W.length wc)
  refine bodyPost_ret (results_agg Try.results16 _ _ w.heap.size _ #[.slice (some ⟨sg, 0, none⟩) D.n sc, .slice (some ⟨tg, 0, none⟩) D.n tc, .slice wo D.W.length wc] _ _ rfl (tri_set H1.out.2.1 _ _ _) Try.underlying33 rfl (by kernel_rfl)) rfl ?_
  refine ⟨_, rfl, hE2, H1.out.2.2.ext hE3 ?_ ?_⟩
  all_goals
    intro g cur hg hm
    simp at hm
    subst hm
    rw [H1.out.2.1] at hg
    simp at hg

def wD0 : Dv := dvNew 2
theorem wD0_ok : DvOk wD0 := dvNew_ok (by omega) (by omega)
def wD1 : Dv := (wD0.store 3 7).1
theorem wD1_ok : DvOk wD1 := Dv.store_ok wD0_ok _ _
theorem w_c0 (d lb sb : Nat) (w : World) (hD : DevAt w d lb sb wD0) : Calls Try.prog 18 #[.pointer (some ⟨d, 0, none⟩), .int .i64 3, .int .u64 7] w fun e w' => e = .returned (.int .i64 0) ∧ DevPost [lb] w d lb sb wD1 w' := pm_Store d lb sb 3 7 wD0 w hD wD0_ok
theorem w_c1 (d lb sb : Nat) (w : World) (hD : DevAt w d lb sb wD1) : Calls Try.prog 20 #[.pointer (some ⟨d, 0, none⟩), .int .i64 3] w fun e w' => e = .returned (.tuple #[.int .u64 7, .int .i64 0]) ∧ Ext [] w w' := pm_Load d lb sb 3 wD1 w hD wD1_ok
theorem w_c2 (d lb sb : Nat) (w : World) (hD : DevAt w d lb sb wD1) : Calls Try.prog 21 #[.pointer (some ⟨d, 0, none⟩), .int .i64 3] w fun e w' => e = .returned (.tuple #[.int .u64 0, .int .i64 0]) ∧ Ext [] w w' := pm_Stays d lb sb 3 wD1 w hD wD1_ok
def wD2 : Dv := (wD1.flush 0).1
theorem wD2_ok : DvOk wD2 := Dv.flush_ok wD1_ok _
theorem w_c3 (d lb sb : Nat) (w : World) (hD : DevAt w d lb sb wD1) : Calls Try.prog 22 #[.pointer (some ⟨d, 0, none⟩), .int .i64 0] w fun e w' => e = .returned (.int .i64 0) ∧ DevPost [d] w d lb sb wD2 w' := pm_Flush d lb sb 0 wD1 w hD wD1_ok
def wD3 : Dv := (wD2.store 3 8).1
theorem wD3_ok : DvOk wD3 := Dv.store_ok wD2_ok _ _
theorem w_c4 (d lb sb : Nat) (w : World) (hD : DevAt w d lb sb wD2) : Calls Try.prog 18 #[.pointer (some ⟨d, 0, none⟩), .int .i64 3, .int .u64 8] w fun e w' => e = .returned (.int .i64 0) ∧ DevPost [lb] w d lb sb wD3 w' := pm_Store d lb sb 3 8 wD2 w hD wD2_ok
def wD4 : Dv := wD3.fence
theorem wD4_ok : DvOk wD4 := Dv.settle_ok wD3_ok _
theorem w_c5 (d lb sb : Nat) (w : World) (hD : DevAt w d lb sb wD3) : Calls Try.prog 23 #[.pointer (some ⟨d, 0, none⟩)] w fun e w' => e = .returned (.int .i64 0) ∧ DevPost [d, sb] w d lb sb wD4 w' := pm_Fence_in d lb sb wD3 w hD wD3_ok
theorem w_c6 (d lb sb : Nat) (w : World) (hD : DevAt w d lb sb wD4) : Calls Try.prog 21 #[.pointer (some ⟨d, 0, none⟩), .int .i64 3] w fun e w' => e = .returned (.tuple #[.int .u64 7, .int .i64 0]) ∧ Ext [] w w' := pm_Stays d lb sb 3 wD4 w hD wD4_ok
theorem w_c7 (d lb sb : Nat) (w : World) (hD : DevAt w d lb sb wD4) : Calls Try.prog 20 #[.pointer (some ⟨d, 0, none⟩), .int .i64 3] w fun e w' => e = .returned (.tuple #[.int .u64 8, .int .i64 0]) ∧ Ext [] w w' := pm_Load d lb sb 3 wD4 w hD wD4_ok
def wD5 : Dv := (wD4.evict 0).1
theorem wD5_ok : DvOk wD5 := Dv.evict_ok wD4_ok _
theorem w_c8 (d lb sb : Nat) (w : World) (hD : DevAt w d lb sb wD4) : Calls Try.prog 31 #[.pointer (some ⟨d, 0, none⟩), .int .i64 0] w fun e w' => e = .returned (.int .i64 0) ∧ DevPost [d, sb] w d lb sb wD5 w' := pm_Evict d lb sb 0 wD4 w hD wD4_ok
def wD6 : Dv := (wD5.store 9 5).1
theorem wD6_ok : DvOk wD6 := Dv.store_ok wD5_ok _ _
theorem w_c9 (d lb sb : Nat) (w : World) (hD : DevAt w d lb sb wD5) : Calls Try.prog 18 #[.pointer (some ⟨d, 0, none⟩), .int .i64 9, .int .u64 5] w fun e w' => e = .returned (.int .i64 0) ∧ DevPost [lb] w d lb sb wD6 w' := pm_Store d lb sb 9 5 wD5 w hD wD5_ok
def wD7 : Dv := (wD6.flush 1).1
theorem wD7_ok : DvOk wD7 := Dv.flush_ok wD6_ok _
theorem w_c10 (d lb sb : Nat) (w : World) (hD : DevAt w d lb sb wD6) : Calls Try.prog 22 #[.pointer (some ⟨d, 0, none⟩), .int .i64 1] w fun e w' => e = .returned (.int .i64 0) ∧ DevPost [d] w d lb sb wD7 w' := pm_Flush d lb sb 1 wD6 w hD wD6_ok
def wD8 : Dv := wD7.crash (markS 1 fun _ => false)
theorem wD8_ok : DvOk wD8 := Dv.crash_ok wD7_ok _
theorem w_c11 (d lb sb : Nat) (w : World) (hD : DevAt w d lb sb wD7) : Calls Try.prog 25 #[.pointer (some ⟨d, 0, none⟩), .slice (some ⟨w.heap.size, 0, none⟩) 1 1] (w.alloc (.cells #[.bool false] 4)) fun e w' => e = .returned (.int .i64 0) ∧ ∃ lb', DevAt w' d lb' sb wD8 ∧ Ext [d, sb] w w' ∧ w.heap.size ≤ lb' := by
  have hE := (Ext.refl [] w).alloc (.cells #[.bool false] 4)
  have hl := hD.lt
  refine (pm_Crash_in d lb sb (some ⟨w.heap.size, 0, none⟩) 1 1 (fun _ => false) wD7 _ (hD.ext0 hE) wD7_ok (fun W hW => .inr ⟨_, 0, rfl, fun i hi => ?_⟩) (by omega)).mono ?_
  · obtain rfl : i = 0 := by omega
    exact hW.cell (cell_of (j := 0) (World.alloc_heap_new _ _) rfl) (by simp; omega)
  · rintro e w' ⟨h1, lb', h2, h3, h4⟩
    exact ⟨h1, lb', h2, hE.wide.trans h3, Nat.le_trans hE.size h4⟩
theorem w_c12 (d lb sb : Nat) (w : World) (hD : DevAt w d lb sb wD8) : Calls Try.prog 20 #[.pointer (some ⟨d, 0, none⟩), .int .i64 3] w fun e w' => e = .returned (.tuple #[.int .u64 8, .int .i64 0]) ∧ Ext [] w w' := pm_Load d lb sb 3 wD8 w hD wD8_ok
theorem w_c13 (d lb sb : Nat) (w : World) (hD : DevAt w d lb sb wD8) : Calls Try.prog 20 #[.pointer (some ⟨d, 0, none⟩), .int .i64 9] w fun e w' => e = .returned (.tuple #[.int .u64 0, .int .i64 0]) ∧ Ext [] w w' := pm_Load d lb sb 9 wD8 w hD wD8_ok
def wD9 : Dv := (wD8.swap 3 8 1).1
theorem wD9_ok : DvOk wD9 := Dv.swap_ok wD8_ok _ _ _
theorem w_c14 (d lb sb : Nat) (w : World) (hD : DevAt w d lb sb wD8) : Calls Try.prog 28 #[.pointer (some ⟨d, 0, none⟩), .int .i64 3, .int .u64 8, .int .u64 1] w fun e w' => e = .returned (.tuple #[.bool true, .int .i64 0]) ∧ DevPost [lb] w d lb sb wD9 w' := pm_Swap d lb sb 3 8 1 wD8 w hD wD8_ok
theorem w_c15 (d lb sb : Nat) (w : World) (hD : DevAt w d lb sb wD9) : Calls Try.prog 20 #[.pointer (some ⟨d, 0, none⟩), .int .i64 16] w fun e w' => e = .returned (.tuple #[.int .u64 0, .int .i64 4]) ∧ Ext [] w w' := pm_Load d lb sb 16 wD9 w hD wD9_ok

set_option maxRecDepth 100000 in
set_option maxHeartbeats 4000000 in
theorem pm_works (w : World) : Calls Try.prog 13 #[] w fun e w' => e = .returned (.bool true) ∧ Ext [] w w' := by
  have HN : Hid (∀ w : World, Calls Try.prog 14 #[.int .i64 2] w fun e w' => e = .returned (.tuple #[.pointer (some ⟨w.heap.size + 2, 0, none⟩), .int .i64 0]) ∧ Ext [] w w' ∧ ∃ lb sb, DevAt w' (w.heap.size + 2) lb sb wD0 ∧ w.heap.size ≤ lb ∧ w.heap.size ≤ sb) := fun w => pm_New 2 w (by omega) (by omega)
  go_enter Try.func13, Try.ntmps13
  go_wp2_with fail
  refine (HN.out _).mono ?_
  rintro e w0 ⟨rfl, hE, lb, sb, hD, hlb, hsb⟩
  obtain ⟨d, hd⟩ : ∃ d, d = w.heap.size + 2 := ⟨_, rfl⟩
  rw [← hd] at hD ⊢
  have H := Lib.hid (And.intro hD (And.intro hE (And.intro (show w.heap.size ≤ d by omega) (And.intro hlb hsb))))
  clear hD hE hlb hsb hd HN
  go_wp2_with fail
  refine (w_c0 d lb sb _ H.out.1).mono ?_
  rintro e w1 ⟨rfl, hD, hE⟩
  have H1 := Lib.hid (And.intro hD (And.intro (H.out.2.1.trans' hE (fun j hj => .inr (by have := H.out.2.2; simp at hj; omega))) H.out.2.2))
  clear hD hE H
  have H := H1
  clear H1
  go_wp2_with fail
  refine (w_c1 d lb sb _ H.out.1).mono ?_
  rintro e w2 ⟨rfl, hE⟩
  have H2 := Lib.hid (And.intro (H.out.1.ext0 hE) (And.intro (H.out.2.1.trans hE) H.out.2.2))
  clear hE H
  have H := H2
  clear H2
  go_wp2_with fail
  refine (w_c2 d lb sb _ H.out.1).mono ?_
  rintro e w3 ⟨rfl, hE⟩
  have H3 := Lib.hid (And.intro (H.out.1.ext0 hE) (And.intro (H.out.2.1.trans hE) H.out.2.2))
  clear hE H
  have H := H3
  clear H3
  go_wp2_with fail
  refine (w_c3 d lb sb _ H.out.1).mono ?_
  rintro e w4 ⟨rfl, hD, hE⟩
  have H4 := Lib.hid (And.intro hD (And.intro (H.out.2.1.trans' hE (fun j hj => .inr (by have := H.out.2.2; simp at hj; omega))) H.out.2.2))
  clear hD hE H
  have H := H4
  clear H4
  go_wp2_with fail
  refine (w_c4 d lb sb _ H.out.1).mono ?_
  rintro e w5 ⟨rfl, hD, hE⟩
  have H5 := Lib.hid (And.intro hD (And.intro (H.out.2.1.trans' hE (fun j hj => .inr (by have := H.out.2.2; simp at hj; omega))) H.out.2.2))
  clear hD hE H
  have H := H5
  clear H5
  go_wp2_with fail
  refine (w_c5 d lb sb _ H.out.1).mono ?_
  rintro e w6 ⟨rfl, hD, hE⟩
  have H6 := Lib.hid (And.intro hD (And.intro (H.out.2.1.trans' hE (fun j hj => .inr (by have := H.out.2.2; simp at hj; omega))) H.out.2.2))
  clear hD hE H
  have H := H6
  clear H6
  go_wp2_with fail
  refine (w_c6 d lb sb _ H.out.1).mono ?_
  rintro e w7 ⟨rfl, hE⟩
  have H7 := Lib.hid (And.intro (H.out.1.ext0 hE) (And.intro (H.out.2.1.trans hE) H.out.2.2))
  clear hE H
  have H := H7
  clear H7
  go_wp2_with fail
  refine (w_c7 d lb sb _ H.out.1).mono ?_
  rintro e w8 ⟨rfl, hE⟩
  have H8 := Lib.hid (And.intro (H.out.1.ext0 hE) (And.intro (H.out.2.1.trans hE) H.out.2.2))
  clear hE H
  have H := H8
  clear H8
  go_wp2_with fail
  refine (w_c8 d lb sb _ H.out.1).mono ?_
  rintro e w9 ⟨rfl, hD, hE⟩
  have H9 := Lib.hid (And.intro hD (And.intro (H.out.2.1.trans' hE (fun j hj => .inr (by have := H.out.2.2; simp at hj; omega))) H.out.2.2))
  clear hD hE H
  have H := H9
  clear H9
  go_wp2_with fail
  refine (w_c9 d lb sb _ H.out.1).mono ?_
  rintro e w10 ⟨rfl, hD, hE⟩
  have H10 := Lib.hid (And.intro hD (And.intro (H.out.2.1.trans' hE (fun j hj => .inr (by have := H.out.2.2; simp at hj; omega))) H.out.2.2))
  clear hD hE H
  have H := H10
  clear H10
  go_wp2_with fail
  refine (w_c10 d lb sb _ H.out.1).mono ?_
  rintro e w11 ⟨rfl, hD, hE⟩
  have H11 := Lib.hid (And.intro hD (And.intro (H.out.2.1.trans' hE (fun j hj => .inr (by have := H.out.2.2; simp at hj; omega))) H.out.2.2))
  clear hD hE H
  have H := H11
  clear H11
  go_wp2_with fail
  refine (w_c11 d lb sb _ H.out.1).mono ?_
  rintro e w12 ⟨rfl, lb', hD, hE, hlb⟩
  have H12 := Lib.hid (And.intro hD (And.intro (H.out.2.1.trans' hE (fun j hj => .inr (by have := H.out.2.2; simp at hj; omega))) (And.intro H.out.2.2.1 (And.intro (Nat.le_trans H.out.2.1.size hlb) H.out.2.2.2.2))))
  clear hD hE H hlb
  obtain ⟨lb, hlb⟩ : ∃ lb, lb' = lb := ⟨_, rfl⟩
  rw [hlb] at H12
  clear hlb
  have H := H12
  clear H12
  go_wp2_with fail
  refine (w_c12 d lb sb _ H.out.1).mono ?_
  rintro e w13 ⟨rfl, hE⟩
  have H13 := Lib.hid (And.intro (H.out.1.ext0 hE) (And.intro (H.out.2.1.trans hE) H.out.2.2))
  clear hE H
  have H := H13
  clear H13
  go_wp2_with fail
  refine (w_c13 d lb sb _ H.out.1).mono ?_
  rintro e w14 ⟨rfl, hE⟩
  have H14 := Lib.hid (And.intro (H.out.1.ext0 hE) (And.intro (H.out.2.1.trans hE) H.out.2.2))
  clear hE H
  have H := H14
  clear H14
  go_wp2_with fail
  refine (w_c14 d lb sb _ H.out.1).mono ?_
  rintro e w15 ⟨rfl, hD, hE⟩
  have H15 := Lib.hid (And.intro hD (And.intro (H.out.2.1.trans' hE (fun j hj => .inr (by have := H.out.2.2; simp at hj; omega))) H.out.2.2))
  clear hD hE H
  have H := H15
  clear H15
  go_wp2_with fail
  refine (w_c15 d lb sb _ H.out.1).mono ?_
  rintro e w16 ⟨rfl, hE⟩
  have H16 := Lib.hid (And.intro (H.out.1.ext0 hE) (And.intro (H.out.2.1.trans hE) H.out.2.2))
  clear hE H
  have H := H16
  clear H16
  go_wp2_with (go_at_call 19; refine (pm_num _ _).mono ?_; rintro e w' ⟨rfl, rfl⟩)
  go_ret
  exact ⟨rfl, H.out.2.1⟩
end Go.Proofs.Ytfojmjkcjdehaaa
namespace Go.Proofs.Ytfojmjkcjdehaaa
open Go Go.RowKit Go.Shelf
attribute [local go_sem] Oper.semAt_some

/-- a call -/
structure PAct where
  what : Int
  at' : Int
  line : Int
  wd : Int
  fr : Int
  bo : Option Addr
  n : Nat
  cap : Nat
  M : Nat → Bool
instance : Inhabited PAct := ⟨⟨0, 0, 0, 0, 0, none, 0, 0, fun _ => false⟩⟩
/-- calls lie there -/
def PActs (w : World) (ao : Option Addr) (n : Nat) (A : Nat → PAct) : Prop :=
  n = 0 ∨ ∃ b off, ao = some ⟨b, off, none⟩ ∧ ∀ i, i < n → w.cell? ⟨b, off + i * 6, none⟩ = some (.int .i64 (A i).what) ∧ w.cell? ⟨b, off + i * 6 + 1, none⟩ = some (.int .i64 (A i).at') ∧ w.cell? ⟨b, off + i * 6 + 2, none⟩ = some (.int .i64 (A i).line) ∧
    w.cell? ⟨b, off + i * 6 + 3, none⟩ = some (.int .u64 (A i).wd) ∧ w.cell? ⟨b, off + i * 6 + 4, none⟩ = some (.int .u64 (A i).fr) ∧ w.cell? ⟨b, off + i * 6 + 5, none⟩ = some (.slice (A i).bo (A i).n (A i).cap) ∧ BoolsAt w (A i).bo (A i).n (A i).M
theorem PActs.ext {w w' : World} {ao : Option Addr} {n : Nat} {A : Nat → PAct} (h : PActs w ao n A) (hE : Ext [] w w') : PActs w' ao n A := by
  rcases h with h | ⟨b, off, h1, h2⟩
  · exact .inl h
  · refine .inr ⟨b, off, h1, fun i hi => ?_⟩
    obtain ⟨a0, a1, a2, a3, a4, a5, a6⟩ := h2 i hi
    exact ⟨hE.cell a0 (by simp), hE.cell a1 (by simp), hE.cell a2 (by simp), hE.cell a3 (by simp), hE.cell a4 (by simp), hE.cell a5 (by simp), a6.ext hE⟩
theorem PActs.bools {w : World} {ao : Option Addr} {n : Nat} {A : Nat → PAct} (h : PActs w ao n A) {i : Nat} (hi : i < n) : BoolsAt w (A i).bo (A i).n (A i).M := by
  rcases h with h | ⟨b, off, h1, h2⟩
  · omega
  · exact (h2 i hi).2.2.2.2.2.2
def actV (x : PAct) : Value := .agg #[.int .i64 x.what, .int .i64 x.at', .int .i64 x.line, .int .u64 x.wd, .int .u64 x.fr, .slice x.bo x.n x.cap]
/-- few calls, of few marks -/
def fewP (n : Nat) (A : Nat → PAct) (most : Int) : Bool := ((List.range n).all fun i => decide ((A i).n ≤ 60)) && decide ((n : Int) ≤ most)
theorem fewP_true {n : Nat} {A : Nat → PAct} {most : Int} (h : fewP n A most = true) : (∀ i, i < n → (A i).n ≤ 60) ∧ (n : Int) ≤ most := by
  unfold fewP at h
  rw [Bool.and_eq_true, List.all_eq_true, decide_eq_true_eq] at h
  exact ⟨fun i hi => by simpa using h.1 i (List.mem_range.2 hi), h.2⟩

set_option maxRecDepth 100000 in
set_option maxHeartbeats 800000 in
theorem pm_few (ao : Option Addr) (n cap : Nat) (A : Nat → PAct) (most : Int) (w : World) (hp : PActs w ao n A) (hn : n ≤ 9223372036854775807) (hA : ∀ i, i < n → (A i).n ≤ 9223372036854775807) :
    Calls Try.prog 12 #[.slice ao n cap, .int .i64 most] w fun e w' => e = .returned (.bool (fewP n A most)) ∧ w = w' := by
  have HP := Lib.hid (And.intro hp hA)
  clear hp hA
  go_enter Try.func12, Try.ntmps12
  go_wp2
  go_loopg [5] n (fun cnt i wr => ∃ j : Nat, i = .int .i64 j ∧ j + cnt = n ∧ wr = w ∧ ∀ t, t < j → (A t).n ≤ 60)
  case atStart => exact ⟨0, rfl, by omega, rfl, fun t ht => by omega⟩
  case round =>
    obtain ⟨j, rfl, hj, hw, hno⟩ := hrel
    subst hw
    by_cases hlt : j < n
    · obtain ⟨b, off, rfl, k5⟩ : ∃ b off, ao = some ⟨b, off, none⟩ ∧ wr.cell? ⟨b, off + j * 6 + 5, none⟩ = some (.slice (A j).bo (A j).n (A j).cap) := by
        rcases HP.out.1 with h | ⟨b, off, h1, h2⟩
        · omega
        · exact ⟨b, off, h1, (h2 j hlt).2.2.2.2.2.1⟩
      have hi0 : (0 : Int) ≤ (j : Int) := by omega
      have hi1 : (j : Int) < (n : Int) := by omega
      have hm := HP.out.2 j hlt
      have HJ := Lib.hid (And.intro hj (And.intro hlt hno))
      clear hj hno
      by_cases hbig : 60 < (A j).n
      · have hd : decide (60 < (A j).n) = true := by simpa using hbig
        have hd2 : decide ((60 : Int) < ((A j).n : Int)) = true := by simp; omega
        have hr : fewP n A most = false := by
          cases h : fewP n A most with
          | false => rfl
          | true => have := (fewP_true h).1 j hlt; omega
        have HR := Lib.hid hr
        clear hr
        go_wp2
        go_ret
        exact ⟨(by rw [HR.out]; rfl), rfl⟩
      · have hd : decide (60 < (A j).n) = false := by simpa using hbig
        have hd2 : decide ((60 : Int) < ((A j).n : Int)) = false := by simp; omega
        go_wp2
        go_roundg (n - (j + 1))
        case measure => have := HJ.out.1; omega
        case rel =>
          refine ⟨j + 1, by go_num, by have := HJ.out; omega, rfl, fun t ht => ?_⟩
          by_cases htj : t = j
          · subst htj; omega
          · exact HJ.out.2.2 t (by omega)
    · have hd : decide (j < n) = false := by simpa using hlt
      have hr : fewP n A most = decide ((n : Int) ≤ most) := by
        unfold fewP
        rw [List.all_eq_true.2 (fun t ht => by have := hno t (by have := List.mem_range.1 ht; omega); simpa using this), Bool.true_and]
      have HR := Lib.hid hr
      clear hj hno hlt hr
      cases hq : decide ((n : Int) ≤ most) with
      | true =>
        have hq' : (n : Int) ≤ most := by simpa using hq
        have HQ := Lib.hid hq
        clear hq
        go_wp2
        go_ret
        exact ⟨(by rw [HR.out, HQ.out]; rfl), rfl⟩
      | false =>
        have hq' : ¬ ((n : Int) ≤ most) := by simpa using hq
        have HQ := Lib.hid hq
        clear hq
        go_wp2
        go_ret
        exact ⟨(by rw [HR.out, HQ.out]; rfl), rfl⟩

/-- a call's device -/
def actD (D : Dv) (x : PAct) : Dv :=
  if x.what = 1 then (D.store x.at' x.wd).1 else if x.what = 2 then (D.swap x.at' x.fr x.wd).1 else if x.what = 3 then (D.flush x.line).1 else if x.what = 4 then D.fence else if x.what = 5 then (D.evict x.line).1 else if x.what = 6 then D.crash (markS x.n x.M) else D
theorem actD_ok {D : Dv} (h : DvOk D) (x : PAct) : DvOk (actD D x) := by
  unfold actD
  split
  · exact Dv.store_ok h _ _
  · split
    · exact Dv.swap_ok h _ _ _
    · split
      · exact Dv.flush_ok h _
      · split
        · exact Dv.settle_ok h _
        · split
          · exact Dv.evict_ok h _
          · split
            · exact Dv.crash_ok h _
            · exact h
theorem Dv.store_n (D : Dv) (a v : Int) : (D.store a v).1.n = D.n := by unfold Dv.store; split <;> rfl
theorem Dv.swap_n (D : Dv) (a f t : Int) : (D.swap a f t).1.n = D.n := by unfold Dv.swap; split <;> (first | rfl | (split <;> rfl))
theorem Dv.flush_n (D : Dv) (k : Int) : (D.flush k).1.n = D.n := by unfold Dv.flush; split <;> rfl
theorem Dv.evict_n (D : Dv) (k : Int) : (D.evict k).1.n = D.n := by unfold Dv.evict; split <;> rfl
theorem actD_n (D : Dv) (x : PAct) : (actD D x).n = D.n := by
  unfold actD
  split
  · exact Dv.store_n _ _ _
  · split
    · exact Dv.swap_n _ _ _ _
    · split
      · exact Dv.flush_n _ _
      · split
        · rfl
        · split
          · exact Dv.evict_n _ _
          · split <;> rfl
/-- what act tells -/
def ActP (w : World) (d lb sb : Nat) (D' E' : Dv) (p : Prop) (e : Ending) (w' : World) : Prop :=
  ∃ d' lb' sb' v' b, e = .returned (.tuple #[.pointer (some ⟨d', 0, none⟩), v', .bool b]) ∧ Ext [d, lb, sb] w w' ∧ DevAt w' d' lb' sb' D' ∧ RefAt w' v' E' ∧ (d' = d ∨ w.heap.size ≤ d') ∧ (lb' = lb ∨ w.heap.size ≤ lb') ∧ (sb' = sb ∨ w.heap.size ≤ sb') ∧ (p → b = true)
/-- the end of act -/
theorem act_fin {w W : World} {d lb sb d' lb' sb' b7 : Nat} {D' E' : Dv} {p : Prop} {x y z : Value} {b : Bool} (hb : W.heap[b7]? = some (.cells #[.slice none 0 0, .slice none 0 0, .slice none 0 0] 33 (0, 0))) (h7 : w.heap.size ≤ b7)
    (hE : Ext [d, lb, sb] w W) (hD : DevAt W d' lb' sb' D') (hR : RefAt W (.agg #[x, y, z]) E') (hd : d' = d ∨ w.heap.size ≤ d') (hl : lb' = lb ∨ w.heap.size ≤ lb') (hs : sb' = sb ∨ w.heap.size ≤ sb') (hp : p → b = true) :
    ActP w d lb sb D' E' p (.returned (.tuple #[.pointer (some ⟨d', 0, none⟩), .agg #[x, y, z], .bool b])) (((W.setCell ⟨b7, 0, none⟩ x).setCell ⟨b7, 1, none⟩ y).setCell ⟨b7, 2, none⟩ z) := by
  have hE7 := ext_three (Ext.refl [b7] W) (g := b7) (.inl (by simp)) x y z
  have hN : ∀ e, e ≠ 33 → NoT W e [b7] := fun e he g cur hg hm => by
    simp at hm
    subst hm
    rw [hb] at hg
    simp at hg
    exact he hg.2.symm
  have hnw : NoW W [b7] := fun g cur hg hm => hN 125 (by decide) g cur hg hm
  have hd7 : d' ∉ [b7] := by
    obtain ⟨⟨cl, cs, wv, h1, _⟩, _⟩ := hD
    intro hm
    simp at hm
    subst hm
    rw [hb] at h1
    simp at h1
  have hl7 : lb' ∉ [b7] := by
    obtain ⟨_, ⟨cur, h1, _⟩, _⟩ := hD
    intro hm
    simp at hm
    subst hm
    rw [hb] at h1
    simp at h1
  have hs7 : sb' ∉ [b7] := by
    obtain ⟨_, _, ⟨cur, h1, _⟩, _⟩ := hD
    intro hm
    simp at hm
    subst hm
    rw [hb] at h1
    simp at h1
  exact ⟨d', lb', sb', _, b, rfl, hE.trans' hE7 (fun j hj => .inr (by simp at hj; omega)), hD.ext hE7 hd7 hl7 hs7 hnw, hR.ext hE7 (hN _ (by decide)) (hN _ (by decide)), hd, hl, hs, hp⟩
end Go.Proofs.Ytfojmjkcjdehaaa
namespace Go.Proofs.Ytfojmjkcjdehaaa
open Go Go.RowKit Go.Shelf
attribute [local go_sem] Oper.semAt_some

theorem six {w : World} {b : Nat} {t : TypeId} {f : Nat × Nat} {v0 v1 v2 v3 v4 v5 : Value} (h : w.heap[b]? = some (.cells #[v0, v1, v2, v3, v4, v5] t f)) :
    w.cell? ⟨b, 0, none⟩ = some v0 ∧ w.cell? ⟨b, 1, none⟩ = some v1 ∧ w.cell? ⟨b, 2, none⟩ = some v2 ∧ w.cell? ⟨b, 3, none⟩ = some v3 ∧ w.cell? ⟨b, 4, none⟩ = some v4 ∧ w.cell? ⟨b, 5, none⟩ = some v5 :=
  ⟨cell_of (j := 0) h rfl, cell_of (j := 1) h rfl, cell_of (j := 2) h rfl, cell_of (j := 3) h rfl, cell_of (j := 4) h rfl, cell_of (j := 5) h rfl⟩
theorem pm_numQ (n : Int) (w : World) : Calls Try.prog 19 #[.int .i64 n] w fun e w' => e = .returned (.int .i64 n) ∧ w' = w := (pm_num n w).mono fun _ _ ⟨a, b⟩ => ⟨a, b.symm⟩

set_option maxRecDepth 100000 in
set_option maxHeartbeats 4000000 in
theorem act_store (d lb sb : Nat) (D E : Dv) (v : Value) (a ln wd fr : Int) (bo : Option Addr) (bn bc : Nat) (w : World) (hD : DevAt w d lb sb D) (hn : DvOk D) (hR : RefAt w v E) (hm : DvOk E) :
    Calls Try.prog 15 #[.pointer (some ⟨d, 0, none⟩), v, .agg #[.int .i64 1, .int .i64 a, .int .i64 ln, .int .u64 wd, .int .u64 fr, .slice bo bn bc]] w (ActP w d lb sb (D.store a wd).1 (E.store a wd).1 (D = E)) := by

  have hRR := hR
  obtain ⟨sg, sc, tg, tc, wo, wc, rfl, _, _, _⟩ := hRR
  obtain ⟨W0, hw0⟩ : ∃ W0, ((w.alloc (.cells #[.slice (some ⟨sg, 0, none⟩) E.n sc, .slice (some ⟨tg, 0, none⟩) E.n tc, .slice wo E.W.length wc] 33)).alloc (.cells #[.int .i64 1, .int .i64 a, .int .i64 ln, .int .u64 wd, .int .u64 fr, .slice bo bn bc] 39)).alloc (.cells #[.slice none 0 0, .slice none 0 0, .slice none 0 0] 33) = W0 := ⟨_, rfl⟩
  have hE0 : Ext [] w W0 := by rw [← hw0]; exact (((Ext.refl [] w).alloc _).alloc _).alloc _
  obtain ⟨hb4, hb5, hb7, hs0⟩ := al3_heap (w := w) #[.slice (some ⟨sg, 0, none⟩) E.n sc, .slice (some ⟨tg, 0, none⟩) E.n tc, .slice wo E.W.length wc] #[.int .i64 1, .int .i64 a, .int .i64 ln, .int .u64 wd, .int .u64 fr, .slice bo bn bc] #[.slice none 0 0, .slice none 0 0, .slice none 0 0] 33 39 33
  rw [hw0] at hb4 hb5 hb7 hs0
  obtain ⟨hdl, hll, hsl⟩ := hD.lt
  have hnb : ∀ q, w.heap.size ≤ q → q ∉ [d, lb, sb] := fun q hq hm => by simp at hm; omega
  have H0 := Lib.hid (And.intro hE0 (And.intro hb4 (And.intro hb5 (And.intro hb7 (And.intro hs0 (And.intro (hD.ext0 hE0) (And.intro (hR.ext0 hE0) (And.intro hnb hD))))))))
  have HN := Lib.hid (And.intro hn hm)
  obtain ⟨a0, a1, a2, a3, a4, a5⟩ := six hb5
  have a0' := a0
  obtain ⟨k0, k1, k2⟩ := three hb4
  clear hE0 hb4 hb5 hb7 hs0 hD hR hdl hll hsl hnb hn hm

  go_enter Try.func15, Try.ntmps15

  go_wp2_with fail
  refine (pm_Store d lb sb a wd D W0 H0.out.2.2.2.2.2.1 HN.out.1).mono ?_
  rintro e w1 ⟨rfl, hD1, hE1⟩
  have hE1' : Ext [d, lb, sb] W0 w1 := hE1.sub (fun j hj => by simp at hj ⊢; omega)
  have hR1 := H0.out.2.2.2.2.2.2.1.extD H0.out.2.2.2.2.2.1 hE1' (fun j hj => by simpa using hj)
  have H1 := Lib.hid (And.intro hE1' (And.intro hD1 (And.intro hR1 (And.intro (hE1'.at H0.out.2.1 (H0.out.2.2.2.2.2.2.2.1 _ (Nat.le_refl _))) (And.intro (hE1'.at H0.out.2.2.1 (H0.out.2.2.2.2.2.2.2.1 _ (by omega))) (hE1'.at H0.out.2.2.2.1 (H0.out.2.2.2.2.2.2.2.1 _ (by omega))))))))
  obtain ⟨a0, a1, a2, a3, a4, a5⟩ := six H1.out.2.2.2.2.1
  obtain ⟨k0, k1, k2⟩ := three H1.out.2.2.2.1
  clear hE1 hE1' hD1 hR1 hw0
  obtain ⟨e1, he1⟩ : ∃ e1, (D.store a wd).2 = e1 := ⟨_, rfl⟩
  rw [he1]
  go_wp2_with fail
  refine (rf_Store _ E a wd w1 H1.out.2.2.1 HN.out.2).mono ?_
  rintro e w2 ⟨v2, rfl, hE2, hR2⟩
  have hR2' := hR2
  obtain ⟨sg2, sc2, tg2, tc2, wo2, wc2, rfl, _, _, _⟩ := hR2'
  obtain ⟨e2, he2⟩ : ∃ e2, (E.store a wd).2 = e2 := ⟨_, rfl⟩
  rw [he2]
  have HQ := Lib.hid (show D = E → (e1 == e2) = true from fun h => by subst h; rw [← he1, ← he2]; simp)
  clear he1 he2
  obtain ⟨E', hE'⟩ : ∃ E', (E.store a wd).1 = E' := ⟨_, rfl⟩
  rw [hE'] at hR2
  have HEE := Lib.hid hE'
  have H2 := Lib.hid (And.intro hE2 (And.intro hR2 (hE2.at H1.out.2.2.2.2.2 (by simp))))
  rw [hE']
  clear hE2 hR2 hE' a0 a1 a2 a3 a4 a5 k0 k1 k2
  go_upto_region 14 with fail
  obtain ⟨W3, hW3⟩ : ∃ W3, w2.alloc (.cells #[.slice (some ⟨sg2, 0, none⟩) E'.n sc2, .slice (some ⟨tg2, 0, none⟩) E'.n tc2, .slice wo2 E'.W.length wc2] 33) = W3 := ⟨_, rfl⟩
  have hE3 : Ext [] w2 W3 := by rw [← hW3]; exact (Ext.refl _ _).alloc _
  obtain ⟨k0, k1, k2⟩ := three (w := W3) (b := w2.heap.size) (v0 := .slice (some ⟨sg2, 0, none⟩) E'.n sc2) (v1 := .slice (some ⟨tg2, 0, none⟩) E'.n tc2) (v2 := .slice wo2 E'.W.length wc2) (t := 33) (f := (0, 0)) (by rw [← hW3]; exact World.alloc_heap_new _ _)
  have hb7 := hE3.at H2.out.2.2 (by simp)
  obtain ⟨m0, m1, m2⟩ := three hb7
  have f0 := free_of hb7 0
  have f1 := free_of hb7 1
  have f2 := free_of hb7 2
  try rw [hW3]
  have H3 := Lib.hid (And.intro hE3 hb7)
  clear hW3 hE3 hb7

  have HS : Hid (∀ W, Ext [w.heap.size + 2] W3 W → W.cell? ⟨w2.heap.size, 0, none⟩ = some (.slice (some ⟨sg2, 0, none⟩) E'.n sc2) ∧ W.cell? ⟨w2.heap.size, 1, none⟩ = some (.slice (some ⟨tg2, 0, none⟩) E'.n tc2) ∧ W.cell? ⟨w2.heap.size, 2, none⟩ = some (.slice wo2 E'.W.length wc2)) := by
    intro W hE
    have hlt := lt_of_block H2.out.2.2
    exact ⟨hE.cell k0 (by simp; omega), hE.cell k1 (by simp; omega), hE.cell k2 (by simp; omega)⟩
  go_region_held3 (fun W => W.cell? ⟨w2.heap.size, 0, none⟩ = some (.slice (some ⟨sg2, 0, none⟩) E'.n sc2) ∧ W.cell? ⟨w2.heap.size, 1, none⟩ = some (.slice (some ⟨tg2, 0, none⟩) E'.n tc2) ∧ W.cell? ⟨w2.heap.size, 2, none⟩ = some (.slice wo2 E'.W.length wc2))
    (first
      | exact HS.out _ (Ext.refl [_] W3).drew
      | exact HS.out _ (ext_three (Ext.refl [_] W3).drew (.inl (by simp)) _ _ _))
    ((go_at_call 19; refine (pm_num _ _).mono ?_; rintro e w' ⟨rfl, rfl⟩))
  all_goals go_wp2
  all_goals
    have hE4 : Ext [] W3 W3.drew := (Ext.refl [] W3).drew
    refine bodyPost_ret (results_tct Try.results15 _ _ (w.heap.size + 2) _ #[.slice (some ⟨sg2, 0, none⟩) E'.n sc2, .slice (some ⟨tg2, 0, none⟩) E'.n tc2, .slice wo2 E'.W.length wc2] _ _ _ _ rfl rfl (tri_set (hE4.at H3.out.2 (by simp)) _ _ _) rfl Try.underlying33 rfl (by kernel_rfl)) rfl ?_
    exact act_fin (hE4.at H3.out.2 (by simp)) (by omega) (H0.out.1.wide.trans (H1.out.1.then (H2.out.1.trans (H3.out.1.trans hE4)))) (H1.out.2.1.ext0 (H2.out.1.trans (H3.out.1.trans hE4))) (by rw [HEE.out]; exact H2.out.2.1.ext0 (H3.out.1.trans hE4)) (.inl rfl) (.inl rfl) (.inl rfl) HQ.out


set_option maxRecDepth 100000 in
set_option maxHeartbeats 4000000 in
theorem act_flush (d lb sb : Nat) (D E : Dv) (v : Value) (a ln wd fr : Int) (bo : Option Addr) (bn bc : Nat) (w : World) (hD : DevAt w d lb sb D) (hn : DvOk D) (hR : RefAt w v E) (hm : DvOk E) :
    Calls Try.prog 15 #[.pointer (some ⟨d, 0, none⟩), v, .agg #[.int .i64 3, .int .i64 a, .int .i64 ln, .int .u64 wd, .int .u64 fr, .slice bo bn bc]] w (ActP w d lb sb (D.flush ln).1 (E.flush ln).1 (D = E)) := by

  have hRR := hR
  obtain ⟨sg, sc, tg, tc, wo, wc, rfl, _, _, _⟩ := hRR
  obtain ⟨W0, hw0⟩ : ∃ W0, ((w.alloc (.cells #[.slice (some ⟨sg, 0, none⟩) E.n sc, .slice (some ⟨tg, 0, none⟩) E.n tc, .slice wo E.W.length wc] 33)).alloc (.cells #[.int .i64 3, .int .i64 a, .int .i64 ln, .int .u64 wd, .int .u64 fr, .slice bo bn bc] 39)).alloc (.cells #[.slice none 0 0, .slice none 0 0, .slice none 0 0] 33) = W0 := ⟨_, rfl⟩
  have hE0 : Ext [] w W0 := by rw [← hw0]; exact (((Ext.refl [] w).alloc _).alloc _).alloc _
  obtain ⟨hb4, hb5, hb7, hs0⟩ := al3_heap (w := w) #[.slice (some ⟨sg, 0, none⟩) E.n sc, .slice (some ⟨tg, 0, none⟩) E.n tc, .slice wo E.W.length wc] #[.int .i64 3, .int .i64 a, .int .i64 ln, .int .u64 wd, .int .u64 fr, .slice bo bn bc] #[.slice none 0 0, .slice none 0 0, .slice none 0 0] 33 39 33
  rw [hw0] at hb4 hb5 hb7 hs0
  obtain ⟨hdl, hll, hsl⟩ := hD.lt
  have hnb : ∀ q, w.heap.size ≤ q → q ∉ [d, lb, sb] := fun q hq hm => by simp at hm; omega
  have H0 := Lib.hid (And.intro hE0 (And.intro hb4 (And.intro hb5 (And.intro hb7 (And.intro hs0 (And.intro (hD.ext0 hE0) (And.intro (hR.ext0 hE0) (And.intro hnb hD))))))))
  have HN := Lib.hid (And.intro hn hm)
  obtain ⟨a0, a1, a2, a3, a4, a5⟩ := six hb5
  have a0' := a0
  obtain ⟨k0, k1, k2⟩ := three hb4
  clear hE0 hb4 hb5 hb7 hs0 hD hR hdl hll hsl hnb hn hm

  go_enter Try.func15, Try.ntmps15

  go_wp2_with fail
  refine (pm_Flush d lb sb ln D W0 H0.out.2.2.2.2.2.1 HN.out.1).mono ?_
  rintro e w1 ⟨rfl, hD1, hE1⟩
  have hE1' : Ext [d, lb, sb] W0 w1 := hE1.sub (fun j hj => by simp at hj ⊢; omega)
  have hR1 := H0.out.2.2.2.2.2.2.1.extD H0.out.2.2.2.2.2.1 hE1' (fun j hj => by simpa using hj)
  have H1 := Lib.hid (And.intro hE1' (And.intro hD1 (And.intro hR1 (And.intro (hE1'.at H0.out.2.1 (H0.out.2.2.2.2.2.2.2.1 _ (Nat.le_refl _))) (And.intro (hE1'.at H0.out.2.2.1 (H0.out.2.2.2.2.2.2.2.1 _ (by omega))) (hE1'.at H0.out.2.2.2.1 (H0.out.2.2.2.2.2.2.2.1 _ (by omega))))))))
  obtain ⟨a0, a1, a2, a3, a4, a5⟩ := six H1.out.2.2.2.2.1
  obtain ⟨k0, k1, k2⟩ := three H1.out.2.2.2.1
  clear hE1 hE1' hD1 hR1 hw0
  obtain ⟨e1, he1⟩ : ∃ e1, (D.flush ln).2 = e1 := ⟨_, rfl⟩
  rw [he1]
  go_wp2_with fail
  refine (rf_Flush _ E ln w1 H1.out.2.2.1 HN.out.2).mono ?_
  rintro e w2 ⟨v2, rfl, hE2, hR2⟩
  have hR2' := hR2
  obtain ⟨sg2, sc2, tg2, tc2, wo2, wc2, rfl, _, _, _⟩ := hR2'
  obtain ⟨e2, he2⟩ : ∃ e2, (E.flush ln).2 = e2 := ⟨_, rfl⟩
  rw [he2]
  have HQ := Lib.hid (show D = E → (e1 == e2) = true from fun h => by subst h; rw [← he1, ← he2]; simp)
  clear he1 he2
  obtain ⟨E', hE'⟩ : ∃ E', (E.flush ln).1 = E' := ⟨_, rfl⟩
  rw [hE'] at hR2
  have HEE := Lib.hid hE'
  have H2 := Lib.hid (And.intro hE2 (And.intro hR2 (hE2.at H1.out.2.2.2.2.2 (by simp))))
  rw [hE']
  clear hE2 hR2 hE' a0 a1 a2 a3 a4 a5 k0 k1 k2
  go_upto_region 22 with fail
  obtain ⟨W3, hW3⟩ : ∃ W3, w2.alloc (.cells #[.slice (some ⟨sg2, 0, none⟩) E'.n sc2, .slice (some ⟨tg2, 0, none⟩) E'.n tc2, .slice wo2 E'.W.length wc2] 33) = W3 := ⟨_, rfl⟩
  have hE3 : Ext [] w2 W3 := by rw [← hW3]; exact (Ext.refl _ _).alloc _
  obtain ⟨k0, k1, k2⟩ := three (w := W3) (b := w2.heap.size) (v0 := .slice (some ⟨sg2, 0, none⟩) E'.n sc2) (v1 := .slice (some ⟨tg2, 0, none⟩) E'.n tc2) (v2 := .slice wo2 E'.W.length wc2) (t := 33) (f := (0, 0)) (by rw [← hW3]; exact World.alloc_heap_new _ _)
  have hb7 := hE3.at H2.out.2.2 (by simp)
  obtain ⟨m0, m1, m2⟩ := three hb7
  have f0 := free_of hb7 0
  have f1 := free_of hb7 1
  have f2 := free_of hb7 2
  try rw [hW3]
  have H3 := Lib.hid (And.intro hE3 hb7)
  clear hW3 hE3 hb7

  have HS : Hid (∀ W, Ext [w.heap.size + 2] W3 W → W.cell? ⟨w2.heap.size, 0, none⟩ = some (.slice (some ⟨sg2, 0, none⟩) E'.n sc2) ∧ W.cell? ⟨w2.heap.size, 1, none⟩ = some (.slice (some ⟨tg2, 0, none⟩) E'.n tc2) ∧ W.cell? ⟨w2.heap.size, 2, none⟩ = some (.slice wo2 E'.W.length wc2)) := by
    intro W hE
    have hlt := lt_of_block H2.out.2.2
    exact ⟨hE.cell k0 (by simp; omega), hE.cell k1 (by simp; omega), hE.cell k2 (by simp; omega)⟩
  go_region_held3 (fun W => W.cell? ⟨w2.heap.size, 0, none⟩ = some (.slice (some ⟨sg2, 0, none⟩) E'.n sc2) ∧ W.cell? ⟨w2.heap.size, 1, none⟩ = some (.slice (some ⟨tg2, 0, none⟩) E'.n tc2) ∧ W.cell? ⟨w2.heap.size, 2, none⟩ = some (.slice wo2 E'.W.length wc2))
    (first
      | exact HS.out _ (Ext.refl [_] W3).drew
      | exact HS.out _ (ext_three (Ext.refl [_] W3).drew (.inl (by simp)) _ _ _))
    ((go_at_call 19; refine (pm_num _ _).mono ?_; rintro e w' ⟨rfl, rfl⟩))
  all_goals go_wp2
  all_goals
    have hE4 : Ext [] W3 W3.drew := (Ext.refl [] W3).drew
    refine bodyPost_ret (results_tct Try.results15 _ _ (w.heap.size + 2) _ #[.slice (some ⟨sg2, 0, none⟩) E'.n sc2, .slice (some ⟨tg2, 0, none⟩) E'.n tc2, .slice wo2 E'.W.length wc2] _ _ _ _ rfl rfl (tri_set (hE4.at H3.out.2 (by simp)) _ _ _) rfl Try.underlying33 rfl (by kernel_rfl)) rfl ?_
    exact act_fin (hE4.at H3.out.2 (by simp)) (by omega) (H0.out.1.wide.trans (H1.out.1.then (H2.out.1.trans (H3.out.1.trans hE4)))) (H1.out.2.1.ext0 (H2.out.1.trans (H3.out.1.trans hE4))) (by rw [HEE.out]; exact H2.out.2.1.ext0 (H3.out.1.trans hE4)) (.inl rfl) (.inl rfl) (.inl rfl) HQ.out


set_option maxRecDepth 100000 in
set_option maxHeartbeats 4000000 in
theorem act_evict (d lb sb : Nat) (D E : Dv) (v : Value) (a ln wd fr : Int) (bo : Option Addr) (bn bc : Nat) (w : World) (hD : DevAt w d lb sb D) (hn : DvOk D) (hR : RefAt w v E) (hm : DvOk E) :
    Calls Try.prog 15 #[.pointer (some ⟨d, 0, none⟩), v, .agg #[.int .i64 5, .int .i64 a, .int .i64 ln, .int .u64 wd, .int .u64 fr, .slice bo bn bc]] w (ActP w d lb sb (D.evict ln).1 (E.evict ln).1 (D = E)) := by

  have hRR := hR
  obtain ⟨sg, sc, tg, tc, wo, wc, rfl, _, _, _⟩ := hRR
  obtain ⟨W0, hw0⟩ : ∃ W0, ((w.alloc (.cells #[.slice (some ⟨sg, 0, none⟩) E.n sc, .slice (some ⟨tg, 0, none⟩) E.n tc, .slice wo E.W.length wc] 33)).alloc (.cells #[.int .i64 5, .int .i64 a, .int .i64 ln, .int .u64 wd, .int .u64 fr, .slice bo bn bc] 39)).alloc (.cells #[.slice none 0 0, .slice none 0 0, .slice none 0 0] 33) = W0 := ⟨_, rfl⟩
  have hE0 : Ext [] w W0 := by rw [← hw0]; exact (((Ext.refl [] w).alloc _).alloc _).alloc _
  obtain ⟨hb4, hb5, hb7, hs0⟩ := al3_heap (w := w) #[.slice (some ⟨sg, 0, none⟩) E.n sc, .slice (some ⟨tg, 0, none⟩) E.n tc, .slice wo E.W.length wc] #[.int .i64 5, .int .i64 a, .int .i64 ln, .int .u64 wd, .int .u64 fr, .slice bo bn bc] #[.slice none 0 0, .slice none 0 0, .slice none 0 0] 33 39 33
  rw [hw0] at hb4 hb5 hb7 hs0
  obtain ⟨hdl, hll, hsl⟩ := hD.lt
  have hnb : ∀ q, w.heap.size ≤ q → q ∉ [d, lb, sb] := fun q hq hm => by simp at hm; omega
  have H0 := Lib.hid (And.intro hE0 (And.intro hb4 (And.intro hb5 (And.intro hb7 (And.intro hs0 (And.intro (hD.ext0 hE0) (And.intro (hR.ext0 hE0) (And.intro hnb hD))))))))
  have HN := Lib.hid (And.intro hn hm)
  obtain ⟨a0, a1, a2, a3, a4, a5⟩ := six hb5
  have a0' := a0
  obtain ⟨k0, k1, k2⟩ := three hb4
  clear hE0 hb4 hb5 hb7 hs0 hD hR hdl hll hsl hnb hn hm

  go_enter Try.func15, Try.ntmps15

  go_wp2_with fail
  refine (pm_Evict d lb sb ln D W0 H0.out.2.2.2.2.2.1 HN.out.1).mono ?_
  rintro e w1 ⟨rfl, hD1, hE1⟩
  have hE1' : Ext [d, lb, sb] W0 w1 := hE1.sub (fun j hj => by simp at hj ⊢; omega)
  have hR1 := H0.out.2.2.2.2.2.2.1.extD H0.out.2.2.2.2.2.1 hE1' (fun j hj => by simpa using hj)
  have H1 := Lib.hid (And.intro hE1' (And.intro hD1 (And.intro hR1 (And.intro (hE1'.at H0.out.2.1 (H0.out.2.2.2.2.2.2.2.1 _ (Nat.le_refl _))) (And.intro (hE1'.at H0.out.2.2.1 (H0.out.2.2.2.2.2.2.2.1 _ (by omega))) (hE1'.at H0.out.2.2.2.1 (H0.out.2.2.2.2.2.2.2.1 _ (by omega))))))))
  obtain ⟨a0, a1, a2, a3, a4, a5⟩ := six H1.out.2.2.2.2.1
  obtain ⟨k0, k1, k2⟩ := three H1.out.2.2.2.1
  clear hE1 hE1' hD1 hR1 hw0
  obtain ⟨e1, he1⟩ : ∃ e1, (D.evict ln).2 = e1 := ⟨_, rfl⟩
  rw [he1]
  go_wp2_with fail
  refine (rf_Evict _ E ln w1 H1.out.2.2.1 HN.out.2).mono ?_
  rintro e w2 ⟨v2, rfl, hE2, hR2⟩
  have hR2' := hR2
  obtain ⟨sg2, sc2, tg2, tc2, wo2, wc2, rfl, _, _, _⟩ := hR2'
  obtain ⟨e2, he2⟩ : ∃ e2, (E.evict ln).2 = e2 := ⟨_, rfl⟩
  rw [he2]
  have HQ := Lib.hid (show D = E → (e1 == e2) = true from fun h => by subst h; rw [← he1, ← he2]; simp)
  clear he1 he2
  obtain ⟨E', hE'⟩ : ∃ E', (E.evict ln).1 = E' := ⟨_, rfl⟩
  rw [hE'] at hR2
  have HEE := Lib.hid hE'
  have H2 := Lib.hid (And.intro hE2 (And.intro hR2 (hE2.at H1.out.2.2.2.2.2 (by simp))))
  rw [hE']
  clear hE2 hR2 hE' a0 a1 a2 a3 a4 a5 k0 k1 k2
  go_upto_region 29 with fail
  obtain ⟨W3, hW3⟩ : ∃ W3, w2.alloc (.cells #[.slice (some ⟨sg2, 0, none⟩) E'.n sc2, .slice (some ⟨tg2, 0, none⟩) E'.n tc2, .slice wo2 E'.W.length wc2] 33) = W3 := ⟨_, rfl⟩
  have hE3 : Ext [] w2 W3 := by rw [← hW3]; exact (Ext.refl _ _).alloc _
  obtain ⟨k0, k1, k2⟩ := three (w := W3) (b := w2.heap.size) (v0 := .slice (some ⟨sg2, 0, none⟩) E'.n sc2) (v1 := .slice (some ⟨tg2, 0, none⟩) E'.n tc2) (v2 := .slice wo2 E'.W.length wc2) (t := 33) (f := (0, 0)) (by rw [← hW3]; exact World.alloc_heap_new _ _)
  have hb7 := hE3.at H2.out.2.2 (by simp)
  obtain ⟨m0, m1, m2⟩ := three hb7
  have f0 := free_of hb7 0
  have f1 := free_of hb7 1
  have f2 := free_of hb7 2
  try rw [hW3]
  have H3 := Lib.hid (And.intro hE3 hb7)
  clear hW3 hE3 hb7

  have HS : Hid (∀ W, Ext [w.heap.size + 2] W3 W → W.cell? ⟨w2.heap.size, 0, none⟩ = some (.slice (some ⟨sg2, 0, none⟩) E'.n sc2) ∧ W.cell? ⟨w2.heap.size, 1, none⟩ = some (.slice (some ⟨tg2, 0, none⟩) E'.n tc2) ∧ W.cell? ⟨w2.heap.size, 2, none⟩ = some (.slice wo2 E'.W.length wc2)) := by
    intro W hE
    have hlt := lt_of_block H2.out.2.2
    exact ⟨hE.cell k0 (by simp; omega), hE.cell k1 (by simp; omega), hE.cell k2 (by simp; omega)⟩
  go_region_held3 (fun W => W.cell? ⟨w2.heap.size, 0, none⟩ = some (.slice (some ⟨sg2, 0, none⟩) E'.n sc2) ∧ W.cell? ⟨w2.heap.size, 1, none⟩ = some (.slice (some ⟨tg2, 0, none⟩) E'.n tc2) ∧ W.cell? ⟨w2.heap.size, 2, none⟩ = some (.slice wo2 E'.W.length wc2))
    (first
      | exact HS.out _ (Ext.refl [_] W3).drew
      | exact HS.out _ (ext_three (Ext.refl [_] W3).drew (.inl (by simp)) _ _ _))
    ((go_at_call 19; refine (pm_num _ _).mono ?_; rintro e w' ⟨rfl, rfl⟩))
  all_goals go_wp2
  all_goals
    have hE4 : Ext [] W3 W3.drew := (Ext.refl [] W3).drew
    refine bodyPost_ret (results_tct Try.results15 _ _ (w.heap.size + 2) _ #[.slice (some ⟨sg2, 0, none⟩) E'.n sc2, .slice (some ⟨tg2, 0, none⟩) E'.n tc2, .slice wo2 E'.W.length wc2] _ _ _ _ rfl rfl (tri_set (hE4.at H3.out.2 (by simp)) _ _ _) rfl Try.underlying33 rfl (by kernel_rfl)) rfl ?_
    exact act_fin (hE4.at H3.out.2 (by simp)) (by omega) (H0.out.1.wide.trans (H1.out.1.then (H2.out.1.trans (H3.out.1.trans hE4)))) (H1.out.2.1.ext0 (H2.out.1.trans (H3.out.1.trans hE4))) (by rw [HEE.out]; exact H2.out.2.1.ext0 (H3.out.1.trans hE4)) (.inl rfl) (.inl rfl) (.inl rfl) HQ.out

end Go.Proofs.Ytfojmjkcjdehaaa
