/- The law's act: Count with Taken, and Copy. -/
import Derived.Test.YtgpoplnfhlfogaaAmB
import Derived.Deep.RegionHeld3
namespace Go.Proofs.Ytgpoplnfhlfogaa
open Go Go.RowKit Go.Shelf
attribute [local go_sem] Oper.semAt_some

set_option maxRecDepth 100000 in
set_option maxHeartbeats 4000000 in
theorem act_count (c mb : Nat) (lo : Int) (n : Nat) (S : Lns) (ao : Option Addr) (cap : Nat) (many : Int) (bo : Option Addr) (bn bcap : Nat) (w : World) (h0 : -1000000000 ≤ lo) (h1 : lo + n ≤ 1000000000) (hn : n ≤ 1000000) (hp : Pool w c mb lo (lo + (n : Int) - 1) S) (hR : RPl w ao lo n S)
    (hI : InL S lo n) :
    Calls Try.prog 33 #[.pointer (some ⟨c, 0, none⟩), .agg #[.int .i64 lo, .slice ao n cap], .agg #[.int .i64 3, .int .i64 many, .slice bo bn bcap]] w (ActPost w c lo n S) := by
  obtain ⟨hb4, hb5, hb7, hs⟩ := al3_heap (w := w) #[.int .i64 lo, .slice ao n cap] #[.int .i64 3, .int .i64 many, .slice bo bn bcap] #[.int .i64 0, .slice none 0 0] 56 45 56
  have hE0 := (((Ext.refl [] w).alloc (.cells #[.int .i64 lo, .slice ao n cap] 56)).alloc (.cells #[.int .i64 3, .int .i64 many, .slice bo bn bcap] 45)).alloc (.cells #[.int .i64 0, .slice none 0 0] 56)
  generalize hw0 : ((w.alloc (.cells #[.int .i64 lo, .slice ao n cap] 56)).alloc (.cells #[.int .i64 3, .int .i64 many, .slice bo bn bcap] 45)).alloc (.cells #[.int .i64 0, .slice none 0 0] 56) = w0 at *
  have hcw : c < w.heap.size := lt_of_block hp.1
  have k1 := cell_of (j := 0) (v := .int .i64 3) hb5 rfl
  have k2 := cell_of (j := 1) (v := .int .i64 many) hb5 rfl
  have k3 := cell_of (j := 0) (v := .int .i64 lo) hb4 rfl
  have k4 := cell_of (j := 1) (v := .slice ao n cap) hb4 rfl
  have H0 := Lib.hid (And.intro hE0 (And.intro hb4 (And.intro hb5 (And.intro hb7 (And.intro (hp.ext hE0 (by simp) (by simp)) (And.intro (hR.ext0 hE0) hcw))))))
  have HT := Lib.hid (fun W (hE : Ext [] w0 W) => al_Taken c mb lo (lo + (n : Int) - 1) S many W (H0.out.2.2.2.2.1.ext hE (by simp) (by simp)))
  have HC := Lib.hid (al_Count c mb lo (lo + (n : Int) - 1) S many w0 H0.out.2.2.2.2.1)
  clear hb4 hb5 hb7 hs hE0 hp hR hcw
  cases hh : hasB lo (lo + (n : Int) - 1) many with
  | false =>
    have hS : (S many).1 = false := by
      cases hs : (S many).1 with
      | false => rfl
      | true => rw [has_iff.2 (hI many hs)] at hh; cases hh
    rw [show countN S lo (lo + (n : Int) - 1) many = (0, 4) from by unfold countN; rw [hh]; rfl] at HC
    rw [hS] at HT
    have HH := Lib.hid (fun W => rf_Has lo ao n cap many W h0 h1)
    rw [hh] at HH
    have HZ := Lib.hid (And.intro h0 (And.intro h1 (And.intro hn hI)))
    clear h0 h1 hn hI hh hS
    go_enter Try.func33, Try.ntmps33
    go_wp2_with fail
    refine HC.out.mono ?_
    rintro e w1 ⟨rfl, hE1⟩
    have q2 := hE1.cell k2 (by simp)
    have q3 := hE1.cell k3 (by simp)
    have q4 := hE1.cell k4 (by simp)
    have H1 := Lib.hid hE1
    clear hE1 k1 k2 k3 k4 hw0
    go_wp2_with fail
    refine (HH.out w1).mono ?_
    rintro e w2 ⟨rfl, hE2⟩
    have r2 := hE2.cell q2 (by simp)
    have r3 := hE2.cell q3 (by simp)
    have r4 := hE2.cell q4 (by simp)
    have hE3 := H1.out.trans hE2
    have hb7 := hE3.at H0.out.2.2.2.1 (by simp)
    have m7 := cell_of (j := 0) (v := .int .i64 0) hb7 rfl
    have m8 := cell_of (j := 1) (v := .slice none 0 0) hb7 rfl
    have f7 := free_of hb7 0
    have f8 := free_of hb7 1
    have H3 := Lib.hid (And.intro hE3 hb7)
    clear hE2 hE3 hb7 q2 q3 q4
    go_wp2
    go_region_with (first | (go_at_call 25; refine (al_num _ _).mono ?_; rintro e w' ⟨rfl, rfl⟩) | (go_at_call 37; refine (HT.out _ ?_).mono ?_; exact Ext.drew H3.out.1; rintro e w' ⟨rfl, rfl⟩))
    all_goals go_wp2
    all_goals
      have hE7 : Ext [] w2 w2.drew := (Ext.refl [] w2).drew
      refine bodyPost_ret (results_tct Try.results33 _ _ (w.heap.size + 2) _ _ _ _ _ _ rfl rfl (pair_set1 (pair_set0 (hE7.at H3.out.2 (by simp)))) rfl Try.underlying56 rfl (by kernel_rfl)) rfl ?_
      exact act_end (hE7.at H3.out.2 (by simp)) (H0.out.1.wide.trans ((H3.out.1.trans hE7).wide)) (by omega) (H0.out.2.2.2.2.1.ext (H3.out.1.trans hE7) (by simp) (by simp)) (H0.out.2.2.2.2.2.1.ext0 (H3.out.1.trans hE7)) (.inl rfl) (by have := H0.out.2.2.2.2.2.2; omega)
  | true =>
    obtain ⟨hb0, hb1⟩ := has_iff.1 hh
    obtain ⟨j, hj⟩ : ∃ j : Nat, lo + (j : Int) = many := ⟨(many - lo).toNat, by omega⟩
    have hjn : j < n := by omega
    rw [show countN S lo (lo + (n : Int) - 1) many = ((S many).2, 0) from by unfold countN; rw [hh]; rfl] at HC
    have HH := Lib.hid (fun W => rf_Has lo ao n cap many W h0 h1)
    rw [hh] at HH
    obtain ⟨b, off, rfl, e1, e2⟩ : ∃ b off, ao = some ⟨b, off, none⟩ ∧ w0.cell? ⟨b, off + j * 2, none⟩ = some (.bool (S many).1) ∧ w0.cell? ⟨b, off + j * 2 + 1, none⟩ = some (.int .i64 (S many).2) := by
      rcases H0.out.2.2.2.2.2.1 with h | ⟨b, off, h1, h2⟩
      · omega
      · have := h2 j hjn
        rw [hj] at this
        exact ⟨b, off, h1, this⟩
    have hsub : wrap64 (many - lo) = (j : Int) := by rw [IntWalk.wrap64_in _ (by omega)]; omega
    have hi0 : (0 : Int) ≤ (j : Int) := by omega
    have hi1 : (j : Int) < (n : Int) := by omega
    have HZ := Lib.hid (And.intro h0 (And.intro h1 (And.intro hn hI)))
    clear h0 h1 hn hI hh hb0 hb1 hj hjn
    generalize (S many).1 = t at *
    generalize (S many).2 = u at *
    have huu : (u == u) = true := by simp
    have htt : (t == t) = true := by simp
    go_enter Try.func33, Try.ntmps33
    go_wp2_with fail
    refine HC.out.mono ?_
    rintro e w1 ⟨rfl, hE1⟩
    have q2 := hE1.cell k2 (by simp)
    have q3 := hE1.cell k3 (by simp)
    have q4 := hE1.cell k4 (by simp)
    have p1 := hE1.cell e1 (by simp)
    have p2 := hE1.cell e2 (by simp)
    have H1 := Lib.hid hE1
    clear hE1 k1 k2 k3 k4 e1 e2 hw0
    go_wp2_with fail
    refine (HH.out w1).mono ?_
    rintro e w2 ⟨rfl, hE2⟩
    have r2 := hE2.cell q2 (by simp)
    have r3 := hE2.cell q3 (by simp)
    have r4 := hE2.cell q4 (by simp)
    have v1 := hE2.cell p1 (by simp)
    have v2 := hE2.cell p2 (by simp)
    obtain ⟨W3, hW3⟩ : ∃ W3, w2.alloc (.cells #[.bool t, .int .i64 u] 120) = W3 := ⟨_, rfl⟩
    have hE23 : Ext [] w2 W3 := by rw [← hW3]; exact (Ext.refl _ _).alloc _
    have hbl : W3.heap[w2.heap.size]? = some (.cells #[.bool t, .int .i64 u] 120 (0, 0)) := by rw [← hW3]; exact World.alloc_heap_new _ _
    have H2 := Lib.hid (H1.out.trans hE2)
    have hE3 := (H1.out.trans hE2).trans hE23
    have s2 := hE23.cell r2 (by simp)
    have s3 := hE23.cell r3 (by simp)
    have s4 := hE23.cell r4 (by simp)
    have l0 := cell_of (j := 0) (v := .bool t) hbl rfl
    have l1 := cell_of (j := 1) (v := .int .i64 u) hbl rfl
    have hb7 := hE3.at H0.out.2.2.2.1 (by simp)
    have m7 := cell_of (j := 0) (v := .int .i64 0) hb7 rfl
    have m8 := cell_of (j := 1) (v := .slice none 0 0) hb7 rfl
    have f7 := free_of hb7 0
    have f8 := free_of hb7 1
    have H3 := Lib.hid (And.intro hE3 hb7)
    clear hE2 hE3 hb7 q2 q3 q4 p1 p2 hbl hE23
    go_wp2
    try rw [hW3]
    clear hW3 r2 r3 r4 v1 v2 hsub hi0 hi1
    have hz2 : w.heap.size + 2 < w2.heap.size := lt_of_block (H2.out.at H0.out.2.2.2.1 (by simp))
    have hna : w2.heap.size ≠ w.heap.size + 2 := by omega
    have hnb : w.heap.size + 2 ≠ w2.heap.size := by omega
    have hnc1 : w.heap.size + 1 + 1 ≠ w.heap.size := by omega
    have hnc2 : w.heap.size ≠ w.heap.size + 1 + 1 := by omega
    clear hz2
    go_region_held3 (fun w' => w'.cell? ⟨w2.heap.size, 0, none⟩ = some (.bool t) ∧ w'.cell? ⟨w2.heap.size, 1, none⟩ = some (.int .i64 u) ∧ w'.cell? ⟨w.heap.size + 1, 1, none⟩ = some (.int .i64 many) ∧ w'.cell? ⟨w.heap.size, 0, none⟩ = some (.int .i64 lo) ∧ w'.cell? ⟨w.heap.size, 1, none⟩ = some (.slice (some ⟨b, off, none⟩) n cap))
      (first | go_keep)
      ((first | (go_at_call 25; refine (al_num _ _).mono ?_; rintro e w' ⟨rfl, rfl⟩) | (go_at_call 37; refine (HT.out _ ?_).mono ?_; exact Ext.drew H3.out.1; rintro e w' ⟨rfl, rfl⟩)))
    all_goals go_wp2
    all_goals
      have hE7 : Ext [] W3 W3.drew := (Ext.refl [] W3).drew
      refine bodyPost_ret (results_tct Try.results33 _ _ (w.heap.size + 2) _ _ _ _ _ _ rfl rfl (pair_set1 (pair_set0 (hE7.at H3.out.2 (by simp)))) rfl Try.underlying56 rfl (by kernel_rfl)) rfl ?_
      exact act_end (hE7.at H3.out.2 (by simp)) (H0.out.1.wide.trans ((H3.out.1.trans hE7).wide)) (by omega) (H0.out.2.2.2.2.1.ext (H3.out.1.trans hE7) (by simp) (by simp)) (H0.out.2.2.2.2.2.1.ext0 (H3.out.1.trans hE7)) (.inl rfl) (by have := H0.out.2.2.2.2.2.2; omega)

set_option maxRecDepth 100000 in
set_option maxHeartbeats 4000000 in
theorem act_copy (c mb : Nat) (lo : Int) (n : Nat) (S : Lns) (ao : Option Addr) (cap : Nat) (what many : Int) (bo : Option Addr) (bn bcap : Nat) (w : World) (h0 : -1000000000 ≤ lo) (h1 : lo + n ≤ 1000000000) (hn : n ≤ 1000000) (hp : Pool w c mb lo (lo + (n : Int) - 1) S) (hR : RPl w ao lo n S)
    (x0 : what ≠ 0) (x1 : what ≠ 1) (x2 : what ≠ 2) (x3 : what ≠ 3) :
    Calls Try.prog 33 #[.pointer (some ⟨c, 0, none⟩), .agg #[.int .i64 lo, .slice ao n cap], .agg #[.int .i64 what, .int .i64 many, .slice bo bn bcap]] w (ActPost w c lo n S) := by
  obtain ⟨hb4, hb5, hb7, hs⟩ := al3_heap (w := w) #[.int .i64 lo, .slice ao n cap] #[.int .i64 what, .int .i64 many, .slice bo bn bcap] #[.int .i64 0, .slice none 0 0] 56 45 56
  have hE0 := (((Ext.refl [] w).alloc (.cells #[.int .i64 lo, .slice ao n cap] 56)).alloc (.cells #[.int .i64 what, .int .i64 many, .slice bo bn bcap] 45)).alloc (.cells #[.int .i64 0, .slice none 0 0] 56)
  generalize hw0 : ((w.alloc (.cells #[.int .i64 lo, .slice ao n cap] 56)).alloc (.cells #[.int .i64 what, .int .i64 many, .slice bo bn bcap] 45)).alloc (.cells #[.int .i64 0, .slice none 0 0] 56) = w0 at *
  have hcw : c < w.heap.size := lt_of_block hp.1
  have k1 := cell_of (j := 0) (v := .int .i64 what) hb5 rfl
  have k2 := cell_of (j := 1) (v := .int .i64 many) hb5 rfl
  have k3 := cell_of (j := 0) (v := .int .i64 lo) hb4 rfl
  have k4 := cell_of (j := 1) (v := .slice ao n cap) hb4 rfl
  have H0 := Lib.hid (And.intro hE0 (And.intro hb4 (And.intro hb5 (And.intro hb7 (And.intro (hp.ext hE0 (by simp) (by simp)) (And.intro (hR.ext0 hE0) hcw))))))
  have HC := Lib.hid (fun W (hE : Ext [] w0 W) => al_Copy c mb lo (lo + (n : Int) - 1) S W (H0.out.2.2.2.2.1.ext hE (by simp) (by simp)))
  have m7 := cell_of (j := 0) (v := .int .i64 0) hb7 rfl
  have m8 := cell_of (j := 1) (v := .slice none 0 0) hb7 rfl
  have f7 := free_of hb7 0
  have f8 := free_of hb7 1
  have z7 : w.heap.size + 2 < w0.heap.size := lt_of_block hb7
  clear hb4 hb5 hb7 hs hE0 hp hR hcw
  have HZ := Lib.hid (And.intro h0 (And.intro h1 hn))
  clear h0 h1 hn
  go_enter Try.func33, Try.ntmps33
  go_wp2
  go_region_with (go_at_call 28; refine (HC.out _ ?_).mono ?_; exact Ext.drew (Ext.refl _ _); rintro e w7 ⟨c', mb', rfl, hE7, hp7, hc7, _⟩; have r7 := hE7.cell m7 (by simp); have r8 := hE7.cell m8 (by simp); have r3 := hE7.cell k3 (by simp); have r4 := hE7.cell k4 (by simp); have g7 := hE7.frozen f7 z7 (by simp); have g8 := hE7.frozen f8 z7 (by simp); have H7 := Lib.hid (And.intro hE7 (And.intro hp7 hc7)); clear hE7 hp7 hc7 m7 m8 f7 f8 k3 k4 k1 k2 z7)
  all_goals go_wp2
  all_goals
    have hE7 : Ext [] w0 w7 := (Ext.refl [] w0).drew.trans H7.out.1
    refine bodyPost_ret (results_tct Try.results33 _ _ (w.heap.size + 2) _ _ _ _ _ _ rfl rfl (pair_set1 (pair_set0 (hE7.at H0.out.2.2.2.1 (by simp)))) rfl Try.underlying56 rfl (by kernel_rfl)) rfl ?_
    exact act_end (hE7.at H0.out.2.2.2.1 (by simp)) (H0.out.1.wide.trans hE7.wide) (by omega) H7.out.2.1 (H0.out.2.2.2.2.2.1.ext0 hE7) (.inr (Nat.le_trans H0.out.1.size H7.out.2.2)) (by have := H7.out.2.2; have := lt_of_block H0.out.2.2.2.1; simp at *; omega)

/-- a call by both, whichever -/
theorem al_act (c mb : Nat) (lo : Int) (n : Nat) (S : Lns) (ao : Option Addr) (cap : Nat) (a : ActV) (w : World) (h0 : -1000000000 ≤ lo) (h1 : lo + n ≤ 1000000000) (hn : n ≤ 1000000) (hp : Pool w c mb lo (lo + (n : Int) - 1) S) (hR : RPl w ao lo n S)
    (hB : ∀ q, 0 ≤ (S q).2 ∧ (S q).2 ≤ 1000000) (hIn : InL S lo n) (hA : ActOk a) (hI : ∀ w', Ext [c] w w' → IntsAt w' a.bo a.n a.L) :
    Calls Try.prog 33 #[.pointer (some ⟨c, 0, none⟩), .agg #[.int .i64 lo, .slice ao n cap], .agg #[.int .i64 a.what, .int .i64 a.many, .slice a.bo a.n a.cap]] w (ActPost w c lo n (actN S lo n a.what a.many (lst a.L a.n))) := by
  have hm := hA.2.1
  have hbn : a.n ≤ 9223372036854775807 := by have := hA.2.2.1; unfold maxLen at this; omega
  unfold actN
  by_cases x0 : a.what = 0
  · rw [x0, if_pos rfl]
    exact act_take c mb lo n S ao cap a.many a.bo a.n a.cap w h0 h1 hn hp hR hB hm
  · rw [if_neg x0]
    by_cases x1 : a.what = 1
    · rw [x1, if_pos rfl]
      exact act_give c mb lo n S ao cap a.many a.bo a.n a.cap a.L w h0 h1 hn hp hR hB hbn hI
    · rw [if_neg x1]
      by_cases x2 : a.what = 2
      · rw [x2, if_pos rfl]
        exact act_claim c mb lo n S ao cap a.many a.bo a.n a.cap a.L w h0 h1 hn hp hR hB hbn hI
      · rw [if_neg x2]
        by_cases x3 : a.what = 3
        · rw [x3]
          exact act_count c mb lo n S ao cap a.many a.bo a.n a.cap w h0 h1 hn hp hR hIn
        · exact act_copy c mb lo n S ao cap a.what a.many a.bo a.n a.cap w h0 h1 hn hp hR x0 x1 x2 x3
end Go.Proofs.Ytgpoplnfhlfogaa
