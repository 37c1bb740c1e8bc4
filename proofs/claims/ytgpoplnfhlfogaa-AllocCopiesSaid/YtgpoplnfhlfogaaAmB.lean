/- The law's act: Give and Claim. -/
import Derived.Test.YtgpoplnfhlfogaaAmA
namespace Go.Proofs.Ytgpoplnfhlfogaa
open Go Go.RowKit Go.Shelf
attribute [local go_sem] Oper.semAt_some

set_option maxRecDepth 100000 in
set_option maxHeartbeats 4000000 in
theorem act_give (c mb : Nat) (lo : Int) (n : Nat) (S : Lns) (ao : Option Addr) (cap : Nat) (many : Int) (bo : Option Addr) (bn bcap : Nat) (L : Nat → Int) (w : World) (h0 : -1000000000 ≤ lo) (h1 : lo + n ≤ 1000000000) (hn : n ≤ 1000000) (hp : Pool w c mb lo (lo + (n : Int) - 1) S) (hR : RPl w ao lo n S)
    (hB : ∀ q, 0 ≤ (S q).2 ∧ (S q).2 ≤ 1000000) (hbn : bn ≤ 9223372036854775807) (hI : ∀ w', Ext [c] w w' → IntsAt w' bo bn L) :
    Calls Try.prog 33 #[.pointer (some ⟨c, 0, none⟩), .agg #[.int .i64 lo, .slice ao n cap], .agg #[.int .i64 1, .int .i64 many, .slice bo bn bcap]] w (ActPost w c lo n (turnN S lo n false 5 (lst L bn)).2) := by
  obtain ⟨hb4, hb5, hb7, hs⟩ := al3_heap (w := w) #[.int .i64 lo, .slice ao n cap] #[.int .i64 1, .int .i64 many, .slice bo bn bcap] #[.int .i64 0, .slice none 0 0] 56 45 56
  have hE0 := (((Ext.refl [] w).alloc (.cells #[.int .i64 lo, .slice ao n cap] 56)).alloc (.cells #[.int .i64 1, .int .i64 many, .slice bo bn bcap] 45)).alloc (.cells #[.int .i64 0, .slice none 0 0] 56)
  generalize hw0 : ((w.alloc (.cells #[.int .i64 lo, .slice ao n cap] 56)).alloc (.cells #[.int .i64 1, .int .i64 many, .slice bo bn bcap] 45)).alloc (.cells #[.int .i64 0, .slice none 0 0] 56) = w0 at *
  have hcw : c < w.heap.size := lt_of_block hp.1
  have k1 := cell_of (j := 0) (v := .int .i64 1) hb5 rfl
  have k2 := cell_of (j := 2) (v := .slice bo bn bcap) hb5 rfl
  have H0 := Lib.hid (And.intro hE0 (And.intro hb4 (And.intro hb5 (And.intro hb7 (And.intro (hp.ext hE0 (by simp) (by simp)) (And.intro (hR.ext0 hE0) (And.intro hcw (And.intro hB hI))))))))
  have HT := Lib.hid (al_Give c mb lo n S bo bn bcap L w0 H0.out.2.2.2.2.1 (hI w0 hE0.wide) hbn (CntB.up hB (by omega)))
  clear hb4 hb5 hb7 hs hE0 hp hR hcw hB hI
  go_enter Try.func33, Try.ntmps33
  go_wp2_with fail
  refine HT.out.mono ?_
  rintro e w1 ⟨rfl, hE1, mb1, hp1, _⟩
  have n4 : w.heap.size ∉ [c] := by have := H0.out.2.2.2.2.2.2.1; simp; omega
  have n5 : w.heap.size + 1 ∉ [c] := by have := H0.out.2.2.2.2.2.2.1; simp; omega
  have n7 : w.heap.size + 2 ∉ [c] := by have := H0.out.2.2.2.2.2.2.1; simp; omega
  have hb4 := hE1.at H0.out.2.1 n4
  have hb5 := hE1.at H0.out.2.2.1 n5
  have hb7 := hE1.at H0.out.2.2.2.1 n7
  have q1 := cell_of (j := 2) (v := .slice bo bn bcap) hb5 rfl
  have q2 := cell_of (j := 0) (v := .int .i64 lo) hb4 rfl
  have q3 := cell_of (j := 1) (v := .slice ao n cap) hb4 rfl
  have HR := Lib.hid (rf_Give lo ao n cap S bo bn bcap L w1 h0 h1 hn (H0.out.2.2.2.2.2.1.apartP H0.out.2.2.2.2.1.1 hE1) H0.out.2.2.2.2.2.2.2.1 (H0.out.2.2.2.2.2.2.2.2 w1 (H0.out.1.wide.trans hE1)) hbn)
  have H1 := Lib.hid (And.intro hE1 (And.intro hp1 hb7))
  clear hE1 hp1 hb4 hb5 hb7 k1 k2 hw0
  go_wp2_with fail
  refine HR.out.mono ?_
  rintro e w2 ⟨ao2, cap2, rfl, hE2, hR2⟩
  generalize turnN S lo n false 5 (lst L bn) = r at *
  obtain ⟨W3, hW3⟩ : ∃ W3, w2.alloc (.cells #[.int .i64 lo, .slice ao2 n cap2] 56) = W3 := ⟨_, rfl⟩
  have hE3 : Ext [] w1 W3 := by rw [← hW3]; exact hE2.alloc _
  have hb11 : W3.heap[w2.heap.size]? = some (.cells #[.int .i64 lo, .slice ao2 n cap2] 56 (0, 0)) := by rw [← hW3]; exact World.alloc_heap_new _ _
  have hb7 := hE3.at H1.out.2.2 (by simp)
  have HR2 := Lib.hid (show RPl W3 ao2 lo n r.2 from by rw [← hW3]; exact hR2.ext0 ((Ext.refl [] _).alloc _))
  have m7 := cell_of (j := 0) (v := .int .i64 0) hb7 rfl
  have m8 := cell_of (j := 1) (v := .slice none 0 0) hb7 rfl
  have f7 := free_of hb7 0
  have f8 := free_of hb7 1
  have m1 := cell_of (j := 0) (v := .int .i64 lo) hb11 rfl
  have m2 := cell_of (j := 1) (v := .slice ao2 n cap2) hb11 rfl
  have H3 := Lib.hid (And.intro hE3 hb7)
  clear hE2 hR2 hE3 hb11 hb7 HT HR q1 q2 q3 n4 n5 n7
  have HZ := Lib.hid (And.intro h0 (And.intro h1 hn))
  clear h0 h1 hn hbn
  have hrr : (r.1 == r.1) = true := by simp
  go_wp2
  try rw [hW3]
  clear hW3
  go_region_with (go_at_call 25; refine (al_num _ _).mono ?_; rintro e w' ⟨rfl, rfl⟩)
  all_goals go_wp2
  all_goals
    have hE7 : Ext [] W3 W3.drew := (Ext.refl [] W3).drew
    refine bodyPost_ret (results_tct Try.results33 _ _ (w.heap.size + 2) _ _ _ _ _ _ rfl rfl (pair_set1 (pair_set0 (hE7.at H3.out.2 (by simp)))) rfl Try.underlying56 rfl (by kernel_rfl)) rfl ?_
    exact act_end (hE7.at H3.out.2 (by simp)) (H0.out.1.wide.trans (H1.out.1.then (H3.out.1.trans hE7))) (by omega) (H1.out.2.1.ext (H3.out.1.trans hE7) (by simp) (by simp)) (HR2.out.ext0 hE7) (.inl rfl) (by have := H0.out.2.2.2.2.2.2.1; omega)

set_option maxRecDepth 100000 in
set_option maxHeartbeats 4000000 in
theorem act_claim (c mb : Nat) (lo : Int) (n : Nat) (S : Lns) (ao : Option Addr) (cap : Nat) (many : Int) (bo : Option Addr) (bn bcap : Nat) (L : Nat → Int) (w : World) (h0 : -1000000000 ≤ lo) (h1 : lo + n ≤ 1000000000) (hn : n ≤ 1000000) (hp : Pool w c mb lo (lo + (n : Int) - 1) S) (hR : RPl w ao lo n S)
    (hB : ∀ q, 0 ≤ (S q).2 ∧ (S q).2 ≤ 1000000) (hbn : bn ≤ 9223372036854775807) (hI : ∀ w', Ext [c] w w' → IntsAt w' bo bn L) :
    Calls Try.prog 33 #[.pointer (some ⟨c, 0, none⟩), .agg #[.int .i64 lo, .slice ao n cap], .agg #[.int .i64 2, .int .i64 many, .slice bo bn bcap]] w (ActPost w c lo n (turnN S lo n true 231 (lst L bn)).2) := by
  obtain ⟨hb4, hb5, hb7, hs⟩ := al3_heap (w := w) #[.int .i64 lo, .slice ao n cap] #[.int .i64 2, .int .i64 many, .slice bo bn bcap] #[.int .i64 0, .slice none 0 0] 56 45 56
  have hE0 := (((Ext.refl [] w).alloc (.cells #[.int .i64 lo, .slice ao n cap] 56)).alloc (.cells #[.int .i64 2, .int .i64 many, .slice bo bn bcap] 45)).alloc (.cells #[.int .i64 0, .slice none 0 0] 56)
  generalize hw0 : ((w.alloc (.cells #[.int .i64 lo, .slice ao n cap] 56)).alloc (.cells #[.int .i64 2, .int .i64 many, .slice bo bn bcap] 45)).alloc (.cells #[.int .i64 0, .slice none 0 0] 56) = w0 at *
  have hcw : c < w.heap.size := lt_of_block hp.1
  have k1 := cell_of (j := 0) (v := .int .i64 2) hb5 rfl
  have k2 := cell_of (j := 2) (v := .slice bo bn bcap) hb5 rfl
  have H0 := Lib.hid (And.intro hE0 (And.intro hb4 (And.intro hb5 (And.intro hb7 (And.intro (hp.ext hE0 (by simp) (by simp)) (And.intro (hR.ext0 hE0) (And.intro hcw (And.intro hB hI))))))))
  have HT := Lib.hid (al_Claim c mb lo n S bo bn bcap L w0 H0.out.2.2.2.2.1 (hI w0 hE0.wide) hbn (CntB.up hB (by omega)))
  clear hb4 hb5 hb7 hs hE0 hp hR hcw hB hI
  go_enter Try.func33, Try.ntmps33
  go_wp2_with fail
  refine HT.out.mono ?_
  rintro e w1 ⟨rfl, hE1, mb1, hp1, _⟩
  have n4 : w.heap.size ∉ [c] := by have := H0.out.2.2.2.2.2.2.1; simp; omega
  have n5 : w.heap.size + 1 ∉ [c] := by have := H0.out.2.2.2.2.2.2.1; simp; omega
  have n7 : w.heap.size + 2 ∉ [c] := by have := H0.out.2.2.2.2.2.2.1; simp; omega
  have hb4 := hE1.at H0.out.2.1 n4
  have hb5 := hE1.at H0.out.2.2.1 n5
  have hb7 := hE1.at H0.out.2.2.2.1 n7
  have q1 := cell_of (j := 2) (v := .slice bo bn bcap) hb5 rfl
  have q2 := cell_of (j := 0) (v := .int .i64 lo) hb4 rfl
  have q3 := cell_of (j := 1) (v := .slice ao n cap) hb4 rfl
  have HR := Lib.hid (rf_Claim lo ao n cap S bo bn bcap L w1 h0 h1 hn (H0.out.2.2.2.2.2.1.apartP H0.out.2.2.2.2.1.1 hE1) H0.out.2.2.2.2.2.2.2.1 (H0.out.2.2.2.2.2.2.2.2 w1 (H0.out.1.wide.trans hE1)) hbn)
  have H1 := Lib.hid (And.intro hE1 (And.intro hp1 hb7))
  clear hE1 hp1 hb4 hb5 hb7 k1 k2 hw0
  go_wp2_with fail
  refine HR.out.mono ?_
  rintro e w2 ⟨ao2, cap2, rfl, hE2, hR2⟩
  generalize turnN S lo n true 231 (lst L bn) = r at *
  obtain ⟨W3, hW3⟩ : ∃ W3, w2.alloc (.cells #[.int .i64 lo, .slice ao2 n cap2] 56) = W3 := ⟨_, rfl⟩
  have hE3 : Ext [] w1 W3 := by rw [← hW3]; exact hE2.alloc _
  have hb11 : W3.heap[w2.heap.size]? = some (.cells #[.int .i64 lo, .slice ao2 n cap2] 56 (0, 0)) := by rw [← hW3]; exact World.alloc_heap_new _ _
  have hb7 := hE3.at H1.out.2.2 (by simp)
  have HR2 := Lib.hid (show RPl W3 ao2 lo n r.2 from by rw [← hW3]; exact hR2.ext0 ((Ext.refl [] _).alloc _))
  have m7 := cell_of (j := 0) (v := .int .i64 0) hb7 rfl
  have m8 := cell_of (j := 1) (v := .slice none 0 0) hb7 rfl
  have f7 := free_of hb7 0
  have f8 := free_of hb7 1
  have m1 := cell_of (j := 0) (v := .int .i64 lo) hb11 rfl
  have m2 := cell_of (j := 1) (v := .slice ao2 n cap2) hb11 rfl
  have H3 := Lib.hid (And.intro hE3 hb7)
  clear hE2 hR2 hE3 hb11 hb7 HT HR q1 q2 q3 n4 n5 n7
  have HZ := Lib.hid (And.intro h0 (And.intro h1 hn))
  clear h0 h1 hn hbn
  have hrr : (r.1 == r.1) = true := by simp
  go_wp2
  try rw [hW3]
  clear hW3
  go_region_with (go_at_call 25; refine (al_num _ _).mono ?_; rintro e w' ⟨rfl, rfl⟩)
  all_goals go_wp2
  all_goals
    have hE7 : Ext [] W3 W3.drew := (Ext.refl [] W3).drew
    refine bodyPost_ret (results_tct Try.results33 _ _ (w.heap.size + 2) _ _ _ _ _ _ rfl rfl (pair_set1 (pair_set0 (hE7.at H3.out.2 (by simp)))) rfl Try.underlying56 rfl (by kernel_rfl)) rfl ?_
    exact act_end (hE7.at H3.out.2 (by simp)) (H0.out.1.wide.trans (H1.out.1.then (H3.out.1.trans hE7))) (by omega) (H1.out.2.1.ext (H3.out.1.trans hE7) (by simp) (by simp)) (HR2.out.ext0 hE7) (.inl rfl) (by have := H0.out.2.2.2.2.2.2.1; omega)
end Go.Proofs.Ytgpoplnfhlfogaa
