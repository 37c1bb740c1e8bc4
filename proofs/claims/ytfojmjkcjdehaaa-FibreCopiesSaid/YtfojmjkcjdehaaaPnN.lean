/- The law's act: Swap, Fence, Crash. -/
import Derived.Test.YtfojmjkcjdehaaaPhK
import Derived.Test.YtfojmjkcjdehaaaHld
namespace Go.Proofs.Ytfojmjkcjdehaaa
open Go Go.RowKit Go.Shelf
attribute [local go_sem] Oper.semAt_some


set_option maxRecDepth 100000 in
set_option maxHeartbeats 4000000 in
theorem act_swap (d lb sb : Nat) (D E : Dv) (v : Value) (a ln wd fr : Int) (bo : Option Addr) (bn bc : Nat) (w : World) (hD : DevAt w d lb sb D) (hn : DvOk D) (hR : RefAt w v E) (hm : DvOk E) :
    Calls Try.prog 15 #[.pointer (some ⟨d, 0, none⟩), v, .agg #[.int .i64 2, .int .i64 a, .int .i64 ln, .int .u64 wd, .int .u64 fr, .slice bo bn bc]] w (ActP w d lb sb (D.swap a fr wd).1 (E.swap a fr wd).1 (D = E)) := by

  have hRR := hR
  obtain ⟨sg, sc, tg, tc, wo, wc, rfl, _, _, _⟩ := hRR
  obtain ⟨W0, hw0⟩ : ∃ W0, ((w.alloc (.cells #[.slice (some ⟨sg, 0, none⟩) E.n sc, .slice (some ⟨tg, 0, none⟩) E.n tc, .slice wo E.W.length wc] 33)).alloc (.cells #[.int .i64 2, .int .i64 a, .int .i64 ln, .int .u64 wd, .int .u64 fr, .slice bo bn bc] 39)).alloc (.cells #[.slice none 0 0, .slice none 0 0, .slice none 0 0] 33) = W0 := ⟨_, rfl⟩
  have hE0 : Ext [] w W0 := by rw [← hw0]; exact (((Ext.refl [] w).alloc _).alloc _).alloc _
  obtain ⟨hb4, hb5, hb7, hs0⟩ := al3_heap (w := w) #[.slice (some ⟨sg, 0, none⟩) E.n sc, .slice (some ⟨tg, 0, none⟩) E.n tc, .slice wo E.W.length wc] #[.int .i64 2, .int .i64 a, .int .i64 ln, .int .u64 wd, .int .u64 fr, .slice bo bn bc] #[.slice none 0 0, .slice none 0 0, .slice none 0 0] 33 39 33
  rw [hw0] at hb4 hb5 hb7 hs0
  obtain ⟨hdl, hll, hsl⟩ := hD.lt
  have hnb : ∀ q, w.heap.size ≤ q → q ∉ [d, lb, sb] := fun q hq hm => by simp at hm; omega
  have H0 := Lib.hid (And.intro hE0 (And.intro hb4 (And.intro hb5 (And.intro hb7 (And.intro hs0 (And.intro (hD.ext0 hE0) (And.intro (hR.ext0 hE0) (And.intro hnb hD))))))))
  have HN := Lib.hid (And.intro hn hm)
  obtain ⟨a0, a1, a2, a3, a4, a5⟩ := six hb5
  have a0' := a0
  obtain ⟨k0, k1, k2⟩ := three hb4
  clear hE0 hb4 hb5 hb7 hs0 hD hR hdl hll hsl hnb hn hm

  go_enter Try.func15, Try.ntmps15

  go_wp2_with fail
  refine (pm_Swap d lb sb a fr wd D W0 H0.out.2.2.2.2.2.1 HN.out.1).mono ?_
  rintro e w1 ⟨rfl, hD1, hE1⟩
  have hE1' : Ext [d, lb, sb] W0 w1 := hE1.sub (fun j hj => by simp at hj ⊢; omega)
  have hR1 := H0.out.2.2.2.2.2.2.1.extD H0.out.2.2.2.2.2.1 hE1' (fun j hj => by simpa using hj)
  have H1 := Lib.hid (And.intro hE1' (And.intro hD1 (And.intro hR1 (And.intro (hE1'.at H0.out.2.1 (H0.out.2.2.2.2.2.2.2.1 _ (Nat.le_refl _))) (And.intro (hE1'.at H0.out.2.2.1 (H0.out.2.2.2.2.2.2.2.1 _ (by omega))) (hE1'.at H0.out.2.2.2.1 (H0.out.2.2.2.2.2.2.2.1 _ (by omega))))))))
  obtain ⟨a0, a1, a2, a3, a4, a5⟩ := six H1.out.2.2.2.2.1
  obtain ⟨k0, k1, k2⟩ := three H1.out.2.2.2.1
  clear hE1 hE1' hD1 hR1 hw0
  obtain ⟨i1, hi1⟩ : ∃ i1, (D.swap a fr wd).2.1 = i1 := ⟨_, rfl⟩
  obtain ⟨e1, he1⟩ : ∃ e1, (D.swap a fr wd).2.2 = e1 := ⟨_, rfl⟩
  rw [hi1, he1]
  go_wp2_with fail
  refine (rf_Swap _ E a fr wd w1 H1.out.2.2.1 HN.out.2).mono ?_
  rintro e w2 ⟨v2, rfl, hE2, hR2⟩
  have hR2' := hR2
  obtain ⟨sg2, sc2, tg2, tc2, wo2, wc2, rfl, _, _, _⟩ := hR2'
  obtain ⟨i2, hi2⟩ : ∃ i2, (E.swap a fr wd).2.1 = i2 := ⟨_, rfl⟩
  obtain ⟨e2, he2⟩ : ∃ e2, (E.swap a fr wd).2.2 = e2 := ⟨_, rfl⟩
  rw [hi2, he2]
  have HQ := Lib.hid (show D = E → (i1 == i2 && e1 == e2) = true from fun h => by subst h; rw [← he1, ← he2, ← hi1, ← hi2]; simp)
  clear he1 he2 hi1 hi2
  obtain ⟨E', hE'⟩ : ∃ E', (E.swap a fr wd).1 = E' := ⟨_, rfl⟩
  rw [hE'] at hR2
  have HEE := Lib.hid hE'
  have H2 := Lib.hid (And.intro hE2 (And.intro hR2 (hE2.at H1.out.2.2.2.2.2 (by simp))))
  rw [hE']
  clear hE2 hR2 hE' a0 a1 a2 a3 a4 a5 k0 k1 k2
  go_upto_region 18 with fail
  obtain ⟨W3, hW3⟩ : ∃ W3, w2.alloc (.cells #[.slice (some ⟨sg2, 0, none⟩) E'.n sc2, .slice (some ⟨tg2, 0, none⟩) E'.n tc2, .slice wo2 E'.W.length wc2] 33) = W3 := ⟨_, rfl⟩
  have hE3 : Ext [] w2 W3 := by rw [← hW3]; exact (Ext.refl _ _).alloc _
  obtain ⟨k0, k1, k2⟩ := three (w := W3) (b := w2.heap.size) (v0 := .slice (some ⟨sg2, 0, none⟩) E'.n sc2) (v1 := .slice (some ⟨tg2, 0, none⟩) E'.n tc2) (v2 := .slice wo2 E'.W.length wc2) (t := 33) (f := (0, 0)) (by rw [← hW3]; exact World.alloc_heap_new _ _)
  have hb7 := hE3.at H2.out.2.2 (by simp)
  obtain ⟨m0, m1, m2⟩ := three hb7
  have f0 := free_of hb7 0
  have f1 := free_of hb7 1
  have f2 := free_of hb7 2
  try rw [hW3]
  have H3 := Lib.hid (And.intro hE3 hb7)
  clear hW3 hE3 hb7

  have HK : Hid (∀ W, Ext [w.heap.size + 2] W3 W → W.cell? ⟨w2.heap.size, 0, none⟩ = some (.slice (some ⟨sg2, 0, none⟩) E'.n sc2) ∧ W.cell? ⟨w2.heap.size, 1, none⟩ = some (.slice (some ⟨tg2, 0, none⟩) E'.n tc2) ∧ W.cell? ⟨w2.heap.size, 2, none⟩ = some (.slice wo2 E'.W.length wc2)) := by
    intro W hE
    have hlt := lt_of_block H2.out.2.2
    exact ⟨hE.cell k0 (by simp; omega), hE.cell k1 (by simp; omega), hE.cell k2 (by simp; omega)⟩
  clear m0 m1 m2 f0 f1 f2
  cases i1 <;> cases i2
  all_goals
    refine wp_region_hd (S := Ext [w.heap.size + 2] W3) 11 (by kernel_rfl) (by kernel_rfl) (fun _ d _ _ _ h => by cases d <;> exact h) (Ext.refl _ _).drew ?_
    simp only [List.take_succ_cons, List.take_zero, List.drop_succ_cons, List.drop_zero]
    repeat (first
      | (refine wpHd_no (by rfl) ?_; simp only [Act.put, List.setIfInBounds_toArray, List.set_cons_zero, List.set_cons_succ])
      | (refine wpHd_yes ?_ (by rfl) (fun w hSw => ?_) ?_
         rotate_left
         · (obtain ⟨q0, q1, q2⟩ := HK.out _ hSw; clear hSw; go_simp; first | exact ⟨rfl, rfl⟩ | exact rfl | exact pm_numQ _ _)
         simp only [Act.put, List.setIfInBounds_toArray, List.set_cons_zero, List.set_cons_succ]))
    refine wpHd_nil ?_
    obtain ⟨m0, m1, m2⟩ := three H3.out.2
    have f0 := free_of H3.out.2 0
    have f1 := free_of H3.out.2 1
    have f2 := free_of H3.out.2 2
    repeat (
      refine wpTl_step (by rfl) (fun K hK => ?_)
      go_simp
      refine hK _ _ (by first | exact (Ext.refl _ _).drew | exact ext_three (Ext.refl [_] _).drew (.inl (by simp)) _ _ _) ?_
      clear hK K
      try simp only [Act.put, List.setIfInBounds_toArray, List.set_cons_zero, List.set_cons_succ])
    refine wpTl_nil ?_
  all_goals go_wp2
  all_goals
    have hE4 : Ext [] W3 W3.drew := (Ext.refl [] W3).drew
    refine bodyPost_ret (results_tct Try.results15 _ _ (w.heap.size + 2) _ #[.slice (some ⟨sg2, 0, none⟩) E'.n sc2, .slice (some ⟨tg2, 0, none⟩) E'.n tc2, .slice wo2 E'.W.length wc2] _ _ _ _ rfl rfl (tri_set (hE4.at H3.out.2 (by simp)) _ _ _) rfl Try.underlying33 rfl (by kernel_rfl)) rfl ?_
    exact act_fin (hE4.at H3.out.2 (by simp)) (by omega) (H0.out.1.wide.trans (H1.out.1.then (H2.out.1.trans (H3.out.1.trans hE4)))) (H1.out.2.1.ext0 (H2.out.1.trans (H3.out.1.trans hE4))) (by rw [HEE.out]; exact H2.out.2.1.ext0 (H3.out.1.trans hE4)) (.inl rfl) (.inl rfl) (.inl rfl) HQ.out


set_option maxRecDepth 100000 in
set_option maxHeartbeats 4000000 in
theorem act_fence (d lb sb : Nat) (D E : Dv) (v : Value) (a ln wd fr : Int) (bo : Option Addr) (bn bc : Nat) (w : World) (hD : DevAt w d lb sb D) (hn : DvOk D) (hR : RefAt w v E) (hm : DvOk E) :
    Calls Try.prog 15 #[.pointer (some ⟨d, 0, none⟩), v, .agg #[.int .i64 4, .int .i64 a, .int .i64 ln, .int .u64 wd, .int .u64 fr, .slice bo bn bc]] w (ActP w d lb sb D.fence E.fence (D = E)) := by

  have hRR := hR
  obtain ⟨sg, sc, tg, tc, wo, wc, rfl, _, _, _⟩ := hRR
  obtain ⟨W0, hw0⟩ : ∃ W0, ((w.alloc (.cells #[.slice (some ⟨sg, 0, none⟩) E.n sc, .slice (some ⟨tg, 0, none⟩) E.n tc, .slice wo E.W.length wc] 33)).alloc (.cells #[.int .i64 4, .int .i64 a, .int .i64 ln, .int .u64 wd, .int .u64 fr, .slice bo bn bc] 39)).alloc (.cells #[.slice none 0 0, .slice none 0 0, .slice none 0 0] 33) = W0 := ⟨_, rfl⟩
  have hE0 : Ext [] w W0 := by rw [← hw0]; exact (((Ext.refl [] w).alloc _).alloc _).alloc _
  obtain ⟨hb4, hb5, hb7, hs0⟩ := al3_heap (w := w) #[.slice (some ⟨sg, 0, none⟩) E.n sc, .slice (some ⟨tg, 0, none⟩) E.n tc, .slice wo E.W.length wc] #[.int .i64 4, .int .i64 a, .int .i64 ln, .int .u64 wd, .int .u64 fr, .slice bo bn bc] #[.slice none 0 0, .slice none 0 0, .slice none 0 0] 33 39 33
  rw [hw0] at hb4 hb5 hb7 hs0
  obtain ⟨hdl, hll, hsl⟩ := hD.lt
  have hnb : ∀ q, w.heap.size ≤ q → q ∉ [d, lb, sb] := fun q hq hm => by simp at hm; omega
  have H0 := Lib.hid (And.intro hE0 (And.intro hb4 (And.intro hb5 (And.intro hb7 (And.intro hs0 (And.intro (hD.ext0 hE0) (And.intro (hR.ext0 hE0) (And.intro hnb hD))))))))
  have HN := Lib.hid (And.intro hn hm)
  obtain ⟨a0, a1, a2, a3, a4, a5⟩ := six hb5
  have a0' := a0
  obtain ⟨k0, k1, k2⟩ := three hb4
  clear hE0 hb4 hb5 hb7 hs0 hD hR hdl hll hsl hnb hn hm

  go_enter Try.func15, Try.ntmps15

  go_wp2_with fail
  refine (pm_Fence_in d lb sb D W0 H0.out.2.2.2.2.2.1 HN.out.1).mono ?_
  rintro e w1 ⟨rfl, hD1, hE1⟩
  have hE1' : Ext [d, lb, sb] W0 w1 := hE1.sub (fun j hj => by simp at hj ⊢; omega)
  obtain ⟨lb', hlb⟩ : ∃ lb', lb' = lb := ⟨_, rfl⟩
  have HB := Lib.hid (And.intro (show lb' = lb ∨ w.heap.size ≤ lb' from .inl hlb) True.intro)
  rw [← hlb] at hD1

  have hR1 := H0.out.2.2.2.2.2.2.1.extD H0.out.2.2.2.2.2.1 hE1' (fun j hj => by simpa using hj)
  have H1 := Lib.hid (And.intro hE1' (And.intro hD1 (And.intro hR1 (And.intro (hE1'.at H0.out.2.1 (H0.out.2.2.2.2.2.2.2.1 _ (Nat.le_refl _))) (And.intro (hE1'.at H0.out.2.2.1 (H0.out.2.2.2.2.2.2.2.1 _ (by omega))) (hE1'.at H0.out.2.2.2.1 (H0.out.2.2.2.2.2.2.2.1 _ (by omega))))))))
  obtain ⟨a0, a1, a2, a3, a4, a5⟩ := six H1.out.2.2.2.2.1
  obtain ⟨k0, k1, k2⟩ := three H1.out.2.2.2.1
  clear hE1 hE1' hD1 hR1 hw0 hlb
  go_wp2_with fail
  refine (rf_Fence _ E w1 H1.out.2.2.1 HN.out.2).mono ?_
  rintro e w2 ⟨v2, rfl, hE2, hR2⟩
  have hR2' := hR2
  obtain ⟨sg2, sc2, tg2, tc2, wo2, wc2, rfl, _, _, _⟩ := hR2'
  obtain ⟨E', hE'⟩ : ∃ E', E.fence = E' := ⟨_, rfl⟩
  rw [hE'] at hR2
  have HEE := Lib.hid hE'
  have H2 := Lib.hid (And.intro hE2 (And.intro hR2 (hE2.at H1.out.2.2.2.2.2 (by simp))))
  rw [hE']
  clear hE2 hR2 hE' a0 a1 a2 a3 a4 a5 k0 k1 k2
  obtain ⟨m0, m1, m2⟩ := three H2.out.2.2
  have f0 := free_of H2.out.2.2 0
  have f1 := free_of H2.out.2.2 1
  have f2 := free_of H2.out.2.2 2
  go_wp2_with (go_at_call 19; refine (pm_num _ _).mono ?_; rintro e w' ⟨rfl, rfl⟩)
  refine bodyPost_ret (results_tct Try.results15 _ _ (w.heap.size + 2) _ #[.slice (some ⟨sg2, 0, none⟩) E'.n sc2, .slice (some ⟨tg2, 0, none⟩) E'.n tc2, .slice wo2 E'.W.length wc2] _ _ _ _ rfl rfl (tri_set H2.out.2.2 _ _ _) rfl Try.underlying33 rfl (by kernel_rfl)) rfl ?_
  exact act_fin (lb := lb) (lb' := lb') H2.out.2.2 (by omega) (H0.out.1.wide.trans (H1.out.1.then H2.out.1)) (H1.out.2.1.ext0 H2.out.1) (by rw [HEE.out]; exact H2.out.2.1) (.inl rfl) HB.out.1 (.inl rfl) (fun _ => rfl)


set_option maxRecDepth 100000 in
set_option maxHeartbeats 4000000 in
theorem act_crash (d lb sb : Nat) (D E : Dv) (v : Value) (a ln wd fr : Int) (bo : Option Addr) (bn bc : Nat) (w : World) (hD : DevAt w d lb sb D) (hn : DvOk D) (hR : RefAt w v E) (hm : DvOk E) (M : Nat → Bool) (hM : ∀ W, Ext [d, lb, sb] w W → BoolsAt W bo bn M) (hmn : bn ≤ 9223372036854775807) :
    Calls Try.prog 15 #[.pointer (some ⟨d, 0, none⟩), v, .agg #[.int .i64 6, .int .i64 a, .int .i64 ln, .int .u64 wd, .int .u64 fr, .slice bo bn bc]] w (ActP w d lb sb (D.crash (markS bn M)) (E.crash (markS bn M)) (D = E)) := by

  have HMK := Lib.hid (And.intro hM hmn)
  clear hM hmn

  have hRR := hR
  obtain ⟨sg, sc, tg, tc, wo, wc, rfl, _, _, _⟩ := hRR
  obtain ⟨W0, hw0⟩ : ∃ W0, ((w.alloc (.cells #[.slice (some ⟨sg, 0, none⟩) E.n sc, .slice (some ⟨tg, 0, none⟩) E.n tc, .slice wo E.W.length wc] 33)).alloc (.cells #[.int .i64 6, .int .i64 a, .int .i64 ln, .int .u64 wd, .int .u64 fr, .slice bo bn bc] 39)).alloc (.cells #[.slice none 0 0, .slice none 0 0, .slice none 0 0] 33) = W0 := ⟨_, rfl⟩
  have hE0 : Ext [] w W0 := by rw [← hw0]; exact (((Ext.refl [] w).alloc _).alloc _).alloc _
  obtain ⟨hb4, hb5, hb7, hs0⟩ := al3_heap (w := w) #[.slice (some ⟨sg, 0, none⟩) E.n sc, .slice (some ⟨tg, 0, none⟩) E.n tc, .slice wo E.W.length wc] #[.int .i64 6, .int .i64 a, .int .i64 ln, .int .u64 wd, .int .u64 fr, .slice bo bn bc] #[.slice none 0 0, .slice none 0 0, .slice none 0 0] 33 39 33
  rw [hw0] at hb4 hb5 hb7 hs0
  obtain ⟨hdl, hll, hsl⟩ := hD.lt
  have hnb : ∀ q, w.heap.size ≤ q → q ∉ [d, lb, sb] := fun q hq hm => by simp at hm; omega
  have H0 := Lib.hid (And.intro hE0 (And.intro hb4 (And.intro hb5 (And.intro hb7 (And.intro hs0 (And.intro (hD.ext0 hE0) (And.intro (hR.ext0 hE0) (And.intro hnb hD))))))))
  have HN := Lib.hid (And.intro hn hm)
  obtain ⟨a0, a1, a2, a3, a4, a5⟩ := six hb5
  have a0' := a0
  obtain ⟨k0, k1, k2⟩ := three hb4
  clear hE0 hb4 hb5 hb7 hs0 hD hR hdl hll hsl hnb hn hm

  go_enter Try.func15, Try.ntmps15

  go_wp2_with fail
  refine (pm_Crash_in d lb sb bo bn bc M D W0 H0.out.2.2.2.2.2.1 HN.out.1 (fun W hE => HMK.out.1 W (H0.out.1.wide.trans (hE.sub (fun j hj => by simp at hj ⊢; omega)))) HMK.out.2).mono ?_
  rintro e w1 ⟨rfl, lb', hD1, hE1, hlb⟩
  have hE1' : Ext [d, lb, sb] W0 w1 := hE1.sub (fun j hj => by simp at hj ⊢; omega)
  have HB := Lib.hid (And.intro (Or.inr (Nat.le_trans H0.out.1.size hlb) : lb' = lb ∨ w.heap.size ≤ lb') True.intro)

  have hR1 := H0.out.2.2.2.2.2.2.1.extD H0.out.2.2.2.2.2.1 hE1' (fun j hj => by simpa using hj)
  have H1 := Lib.hid (And.intro hE1' (And.intro hD1 (And.intro hR1 (And.intro (hE1'.at H0.out.2.1 (H0.out.2.2.2.2.2.2.2.1 _ (Nat.le_refl _))) (And.intro (hE1'.at H0.out.2.2.1 (H0.out.2.2.2.2.2.2.2.1 _ (by omega))) (hE1'.at H0.out.2.2.2.1 (H0.out.2.2.2.2.2.2.2.1 _ (by omega))))))))
  obtain ⟨a0, a1, a2, a3, a4, a5⟩ := six H1.out.2.2.2.2.1
  obtain ⟨k0, k1, k2⟩ := three H1.out.2.2.2.1
  clear hE1 hE1' hD1 hR1 hw0 hlb
  go_wp2_with fail
  refine (rf_Crash _ E bo bn bc M w1 H1.out.2.2.1 HN.out.2 (HMK.out.1 _ (H0.out.1.wide.trans H1.out.1)) HMK.out.2).mono ?_
  rintro e w2 ⟨v2, rfl, hE2, hR2⟩
  have hR2' := hR2
  obtain ⟨sg2, sc2, tg2, tc2, wo2, wc2, rfl, _, _, _⟩ := hR2'
  obtain ⟨E', hE'⟩ : ∃ E', (E.crash (markS bn M)) = E' := ⟨_, rfl⟩
  rw [hE'] at hR2
  have HEE := Lib.hid hE'
  have H2 := Lib.hid (And.intro hE2 (And.intro hR2 (hE2.at H1.out.2.2.2.2.2 (by simp))))
  rw [hE']
  clear hE2 hR2 hE' a0 a1 a2 a3 a4 a5 k0 k1 k2
  obtain ⟨m0, m1, m2⟩ := three H2.out.2.2
  have f0 := free_of H2.out.2.2 0
  have f1 := free_of H2.out.2.2 1
  have f2 := free_of H2.out.2.2 2
  go_wp2_with (go_at_call 19; refine (pm_num _ _).mono ?_; rintro e w' ⟨rfl, rfl⟩)
  refine bodyPost_ret (results_tct Try.results15 _ _ (w.heap.size + 2) _ #[.slice (some ⟨sg2, 0, none⟩) E'.n sc2, .slice (some ⟨tg2, 0, none⟩) E'.n tc2, .slice wo2 E'.W.length wc2] _ _ _ _ rfl rfl (tri_set H2.out.2.2 _ _ _) rfl Try.underlying33 rfl (by kernel_rfl)) rfl ?_
  exact act_fin (lb := lb) (lb' := lb') H2.out.2.2 (by omega) (H0.out.1.wide.trans (H1.out.1.then H2.out.1)) (H1.out.2.1.ext0 H2.out.1) (by rw [HEE.out]; exact H2.out.2.1) (.inl rfl) HB.out.1 (.inl rfl) (fun _ => rfl)

end Go.Proofs.Ytfojmjkcjdehaaa
