/- The document's pool: Give, Claim, Same, New. -/
import Derived.Test.YtgpoplnfhlfogaaAlV
namespace Go.Proofs.Ytgpoplnfhlfogaa
open Go Go.RowKit Go.Shelf

/-- lines don't lie where a pool lies -/
theorem RPl.apart {w w' : World} {ao : Option Addr} {lo : Int} {n : Nat} {S : Lns} {g : Nat} {x : Int} {po : Option Addr} {a b : Nat} {T : TypeId} {f : Nat × Nat} (h : RPl w ao lo n S) (hg : w.heap[g]? = some (.cells #[.int .i64 x, .slice po a b] T f)) (hE : Ext [g] w w') : RPl w' ao lo n S := by
  by_cases hn : n = 0
  · exact .inl hn
  · refine h.ext hE (fun p hp => ?_)
    rcases h with h | ⟨b', off, h1, h2⟩
    · exact absurd h hn
    · rw [h1] at hp
      cases hp
      simp
      rintro rfl
      have h3 := (h2 0 (by omega)).1
      simp only [World.cell?, hg, Nat.zero_mul, Nat.add_zero] at h3
      match off, h3 with
      | 0, h3 => simp at h3
      | 1, h3 => simp at h3
      | k + 2, h3 => simp at h3

set_option maxRecDepth 100000 in
set_option maxHeartbeats 1000000 in
theorem rf_Give (lo : Int) (ao : Option Addr) (n cap : Nat) (S : Lns) (lp : Option Addr) (m lc : Nat) (L : Nat → Int) (w : World) (h0 : -1000000000 ≤ lo) (h1 : lo + n ≤ 1000000000) (hn : n ≤ 1000000) (hR : RPl w ao lo n S) (hB : ∀ q, 0 ≤ (S q).2 ∧ (S q).2 ≤ 1000000)
    (hI : IntsAt w lp m L) (hm : m ≤ 9223372036854775807) :
    Calls Try.prog 78 #[.agg #[.int .i64 lo, .slice ao n cap], .slice lp m lc] w (RTurn w lo n (turnN S lo n false 5 (lst L m))) := by
  obtain ⟨hb0, hb1, hs0⟩ := al2_heap (w := w) #[.int .i64 lo, .slice ao n cap] #[.int .i64 0, .slice none 0 0] 56 56
  have hE0 := ((Ext.refl [] w).alloc (.cells #[.int .i64 lo, .slice ao n cap] 56)).alloc (.cells #[.int .i64 0, .slice none 0 0] 56)
  generalize hw0 : (w.alloc (.cells #[.int .i64 lo, .slice ao n cap] 56)).alloc (.cells #[.int .i64 0, .slice none 0 0] 56) = w0 at *
  have HT := Lib.hid (rf_turn lo ao n cap S false 5 lp m lc L w0 h0 h1 hn (hR.ext0 hE0) hB (hI.ext hE0) hm)
  have H0 := Lib.hid (And.intro hb1 (And.intro hE0 hs0))
  have k0 := cell_of (j := 0) (v := .int .i64 lo) hb0 rfl
  have k1 := cell_of (j := 1) (v := .slice ao n cap) hb0 rfl
  clear hR hB hI hb0 hb1 hE0 hs0
  go_enter Try.func78, Try.ntmps78
  go_wp2_with fail
  refine HT.out.mono ?_
  rintro e w5 ⟨ao', cap', rfl, hE5, hR5⟩
  have hb5 := hE5.at H0.out.1 (by simp)
  have m0 := cell_of (j := 0) (v := .int .i64 0) hb5 rfl
  have m1 := cell_of (j := 1) (v := .slice none 0 0) hb5 rfl
  have g0 := free_of hb5 0
  have g1 := free_of hb5 1
  have H5 := Lib.hid (And.intro hE5 (And.intro hR5 hb5))
  clear hE5 hR5 hb5
  go_wp2
  refine bodyPost_ret (results_ca Try.results78 _ _ (w.heap.size + 1) _ _ _ _ _ rfl (pair_set1 (pair_set0 H5.out.2.2)) rfl Try.underlying56 rfl (by kernel_rfl)) rfl ?_
  have hE3 : Ext [w.heap.size + 1] w5 ((w5.setCell ⟨w.heap.size + 1, 0, none⟩ (.int .i64 lo)).setCell ⟨w.heap.size + 1, 1, none⟩ (.slice ao' n cap')) := (((Ext.refl [w.heap.size + 1] w5).setCell (.inl (by simp)) _).setCell (.inl (by simp)) _)
  refine ⟨ao', cap', rfl, (H0.out.2.1.trans H5.out.1).trans' hE3 (fun p hp => .inr (by simp at hp; omega)), ?_⟩
  exact H5.out.2.1.apart H5.out.2.2 hE3

set_option maxRecDepth 100000 in
set_option maxHeartbeats 1000000 in
theorem rf_Claim (lo : Int) (ao : Option Addr) (n cap : Nat) (S : Lns) (lp : Option Addr) (m lc : Nat) (L : Nat → Int) (w : World) (h0 : -1000000000 ≤ lo) (h1 : lo + n ≤ 1000000000) (hn : n ≤ 1000000) (hR : RPl w ao lo n S) (hB : ∀ q, 0 ≤ (S q).2 ∧ (S q).2 ≤ 1000000)
    (hI : IntsAt w lp m L) (hm : m ≤ 9223372036854775807) :
    Calls Try.prog 79 #[.agg #[.int .i64 lo, .slice ao n cap], .slice lp m lc] w (RTurn w lo n (turnN S lo n true 231 (lst L m))) := by
  obtain ⟨hb0, hb1, hs0⟩ := al2_heap (w := w) #[.int .i64 lo, .slice ao n cap] #[.int .i64 0, .slice none 0 0] 56 56
  have hE0 := ((Ext.refl [] w).alloc (.cells #[.int .i64 lo, .slice ao n cap] 56)).alloc (.cells #[.int .i64 0, .slice none 0 0] 56)
  generalize hw0 : (w.alloc (.cells #[.int .i64 lo, .slice ao n cap] 56)).alloc (.cells #[.int .i64 0, .slice none 0 0] 56) = w0 at *
  have HT := Lib.hid (rf_turn lo ao n cap S true 231 lp m lc L w0 h0 h1 hn (hR.ext0 hE0) hB (hI.ext hE0) hm)
  have H0 := Lib.hid (And.intro hb1 (And.intro hE0 hs0))
  have k0 := cell_of (j := 0) (v := .int .i64 lo) hb0 rfl
  have k1 := cell_of (j := 1) (v := .slice ao n cap) hb0 rfl
  clear hR hB hI hb0 hb1 hE0 hs0
  go_enter Try.func79, Try.ntmps79
  go_wp2_with fail
  refine HT.out.mono ?_
  rintro e w5 ⟨ao', cap', rfl, hE5, hR5⟩
  have hb5 := hE5.at H0.out.1 (by simp)
  have m0 := cell_of (j := 0) (v := .int .i64 0) hb5 rfl
  have m1 := cell_of (j := 1) (v := .slice none 0 0) hb5 rfl
  have g0 := free_of hb5 0
  have g1 := free_of hb5 1
  have H5 := Lib.hid (And.intro hE5 (And.intro hR5 hb5))
  clear hE5 hR5 hb5
  go_wp2
  refine bodyPost_ret (results_ca Try.results79 _ _ (w.heap.size + 1) _ _ _ _ _ rfl (pair_set1 (pair_set0 H5.out.2.2)) rfl Try.underlying56 rfl (by kernel_rfl)) rfl ?_
  have hE3 : Ext [w.heap.size + 1] w5 ((w5.setCell ⟨w.heap.size + 1, 0, none⟩ (.int .i64 lo)).setCell ⟨w.heap.size + 1, 1, none⟩ (.slice ao' n cap')) := (((Ext.refl [w.heap.size + 1] w5).setCell (.inl (by simp)) _).setCell (.inl (by simp)) _)
  refine ⟨ao', cap', rfl, (H0.out.2.1.trans H5.out.1).trans' hE3 (fun p hp => .inr (by simp at hp; omega)), ?_⟩
  exact H5.out.2.1.apart H5.out.2.2 hE3

def rsameB (S1 S2 : Lns) (lo : Int) (n : Nat) : Bool := sameB S1 S2 lo n
theorem sameB_all {S1 S2 : Lns} {lo : Int} {n : Nat} (h : ∀ i, i < n → lnEq S1 S2 (lo + (i : Int)) = true) : sameB S1 S2 lo n = true := by
  unfold sameB
  rw [List.all_eq_true]
  intro k hk
  have := (mem_lnsOf lo n k).1 hk
  have h2 := h (k - lo).toNat (by omega)
  rwa [show lo + ((k - lo).toNat : Int) = k from by omega] at h2
theorem neqLine2 (a b : Bool) (x y : Int) (w : World) : (binOp .neq 120 (.agg #[.bool a, .int .i64 x]) (.agg #[.bool b, .int .i64 y])).run Try.prog w = .ok (.bool (!(a == b && x == y))) w := by
  have u3 := Try.underlying3
  have u4 := Try.underlying4
  have hS : Try.prog.underlying 120 = some (.struct (Try.prog.fieldsOf 120)) := by kernel_rfl
  have hp : Try.prog.stoodInHeld 120 = false := by kernel_rfl
  rw [run_neq_struct, show (10000 : Nat) = 9999 + 1 from rfl, run_equalIn_agg w 9999 120 _ _ hS hp]
  simp only [Program.fieldsOf, Try.underlying120]
  go_simp
  cases hab : (a == b) <;> cases hxy : (x == y) <;> simp_all

set_option maxRecDepth 100000 in
set_option maxHeartbeats 2000000 in
theorem rf_Same (lo : Int) (ao bo : Option Addr) (n capa capb : Nat) (S1 S2 : Lns) (w : World) (h0 : -1000000000 ≤ lo) (h1 : lo + n ≤ 1000000000) (hn : n ≤ 1000000) (hR1 : RPl w ao lo n S1) (hR2 : RPl w bo lo n S2) :
    Calls Try.prog 38 #[.agg #[.int .i64 lo, .slice ao n capa], .agg #[.int .i64 lo, .slice bo n capb]] w fun e w' => e = .returned (.bool (sameB S1 S2 lo n)) ∧ Ext [] w w' := by
  have HR := Lib.hid (And.intro hR1 hR2)
  obtain ⟨hb0, hb1, hs0⟩ := al2_heap (w := w) #[.int .i64 lo, .slice ao n capa] #[.int .i64 lo, .slice bo n capb] 56 56
  have hE0 := ((Ext.refl [] w).alloc (.cells #[.int .i64 lo, .slice ao n capa] 56)).alloc (.cells #[.int .i64 lo, .slice bo n capb] 56)
  generalize hw0 : (w.alloc (.cells #[.int .i64 lo, .slice ao n capa] 56)).alloc (.cells #[.int .i64 lo, .slice bo n capb] 56) = w0 at *
  have H0 := Lib.hid (And.intro hb0 (And.intro hb1 hE0))
  have k0 := cell_of (j := 0) (v := .int .i64 lo) hb0 rfl
  have k1 := cell_of (j := 1) (v := .slice ao n capa) hb0 rfl
  have k2 := cell_of (j := 0) (v := .int .i64 lo) hb1 rfl
  have k3 := cell_of (j := 1) (v := .slice bo n capb) hb1 rfl
  have hbl : (lo != lo) = false := by simp
  have hbn : ((n : Int) != (n : Int)) = false := by simp
  clear hR1 hR2 hb0 hb1 hE0 hs0
  go_enter Try.func38, Try.ntmps38
  go_wp2
  go_loopg [5] n (fun k i wr => ∃ j : Nat, i = .int .i64 j ∧ j + k = n ∧ Ext [] w0 wr ∧ ∀ i, i < j → lnEq S1 S2 (lo + (i : Int)) = true)
  case atStart => exact ⟨0, rfl, by omega, Ext.refl _ _, fun i hi => absurd hi (Nat.not_lt_zero _)⟩
  case round =>
    obtain ⟨j, rfl, hjk, hE, hall⟩ := hrel
    have q0 := hE.cell k1 (by simp)
    have q1 := hE.cell k3 (by simp)
    have HE := Lib.hid (And.intro hE hall)
    clear hE hall k0 k1 k2 k3
    by_cases hlt : j < n
    · obtain ⟨b, off, rfl, e1, e2⟩ : ∃ b off, ao = some ⟨b, off, none⟩ ∧ wr.cell? ⟨b, off + j * 2, none⟩ = some (.bool (S1 (lo + (j : Int))).1) ∧ wr.cell? ⟨b, off + j * 2 + 1, none⟩ = some (.int .i64 (S1 (lo + (j : Int))).2) := by
        rcases (HR.out.1.ext0 H0.out.2.2).ext0 HE.out.1 with h | ⟨b, off, h1, h2⟩
        · omega
        · exact ⟨b, off, h1, (h2 j hlt)⟩
      obtain ⟨b', off', rfl, e3, e4⟩ : ∃ b off, bo = some ⟨b, off, none⟩ ∧ wr.cell? ⟨b, off + j * 2, none⟩ = some (.bool (S2 (lo + (j : Int))).1) ∧ wr.cell? ⟨b, off + j * 2 + 1, none⟩ = some (.int .i64 (S2 (lo + (j : Int))).2) := by
        rcases (HR.out.2.ext0 H0.out.2.2).ext0 HE.out.1 with h | ⟨b, off, h1, h2⟩
        · omega
        · exact ⟨b, off, h1, (h2 j hlt)⟩
      have hq := neqLine2 (S1 (lo + (j : Int))).1 (S2 (lo + (j : Int))).1 (S1 (lo + (j : Int))).2 (S2 (lo + (j : Int))).2
      have hi0 : (0 : Int) ≤ (j : Int) := by omega
      have hi1 : (j : Int) < (n : Int) := by omega
      cases hl : lnEq S1 S2 (lo + (j : Int)) with
      | true =>
        have HL := Lib.hid hl
        rw [show ((S1 (lo + (j : Int))).1 == (S2 (lo + (j : Int))).1 && (S1 (lo + (j : Int))).2 == (S2 (lo + (j : Int))).2) = true from hl] at hq
        clear hl
        generalize (S1 (lo + (j : Int))).1 = t1 at *
        generalize (S1 (lo + (j : Int))).2 = u1 at *
        generalize (S2 (lo + (j : Int))).1 = t2 at *
        generalize (S2 (lo + (j : Int))).2 = u2 at *
        go_wp2
        go_quiet (fail)
        go_wp2
        go_roundg (n - (j + 1))
        case measure => omega
        case rel =>
          refine ⟨j + 1, by go_num, by omega, Ext.drewN HE.out.1 _, fun i hi => ?_⟩
          rcases Nat.lt_succ_iff_lt_or_eq.1 hi with h | h
          · exact HE.out.2 i h
          · rw [h]; exact HL.out
      | false =>
        have HF := Lib.hid (sameB_false (S1 := S1) (S2 := S2) (lo := lo) hlt (by rw [hl]; rfl))
        rw [show ((S1 (lo + (j : Int))).1 == (S2 (lo + (j : Int))).1 && (S1 (lo + (j : Int))).2 == (S2 (lo + (j : Int))).2) = false from hl] at hq
        clear hl
        generalize (S1 (lo + (j : Int))).1 = t1 at *
        generalize (S1 (lo + (j : Int))).2 = u1 at *
        generalize (S2 (lo + (j : Int))).1 = t2 at *
        generalize (S2 (lo + (j : Int))).2 = u2 at *
        go_wp2
        go_quiet (fail)
        go_wp2
        go_ret
        exact ⟨ret_bool HF.out, H0.out.2.2.trans (Ext.drewN HE.out.1 _)⟩
    · have hge : n ≤ j := by omega
      have HF := Lib.hid (sameB_all (S1 := S1) (S2 := S2) (lo := lo) (n := n) (fun i hi => HE.out.2 i (by omega)))
      go_wp2
      go_ret
      exact ⟨ret_bool HF.out, H0.out.2.2.trans HE.out.1⟩

set_option maxRecDepth 100000 in
set_option maxHeartbeats 2000000 in
theorem rf_New (lo : Int) (n : Nat) (w : World) (h0 : -1000000000 ≤ lo) (h1 : lo + n ≤ 1000000000) (hn0 : 0 < n) (hn : n ≤ 1000000) :
    Calls Try.prog 32 #[.int .i64 lo, .int .i64 (lo + (n : Int) - 1)] w fun e w' => ∃ ao, e = .returned (.agg #[.int .i64 lo, .slice ao n n]) ∧ Ext [] w w' ∧ RPl w' ao lo n S0 := by
  obtain ⟨i0, hi, hz0, hz1, hz2⟩ := info_parts infoLn
  obtain ⟨w2, hr, ho, hg⟩ := run_make_full (P := Try.prog) (w.alloc (.cells #[.int .i64 0, .slice none 0 0] 56)) 0 54 120 i0 (.agg #[.bool false, .int .i64 0]) 2 Try.underlying54 hi hz0 hz1 .i64 .i64 n (by rw [hz2]; omega) (by unfold maxLen; omega) (Nat.zero_le _)
  have e1 : lo + (n : Int) - 1 - lo = (n : Int) - 1 := by omega
  have e2 : (n : Int) - 1 + 1 = (n : Int) := by omega
  have hE : Ext [] (w.alloc (.cells #[.int .i64 0, .slice none 0 0] 56)) w2 := Ext.grown hg
  have hb := hE.at (World.alloc_heap_new w (.cells #[.int .i64 0, .slice none 0 0] 56)) (by simp)
  have m0 := cell_of (j := 0) (v := .int .i64 0) hb rfl
  have m1 := cell_of (j := 1) (v := .slice none 0 0) hb rfl
  have g0 := free_of hb 0
  have g1 := free_of hb 1
  have H := Lib.hid (And.intro ho (And.intro hE hb))
  clear ho hg hE hb
  go_enter Try.func32, Try.ntmps32
  go_wp2
  have hE3 : Ext [w.heap.size] w2 ((w2.setCell ⟨w.heap.size, 0, none⟩ (.int .i64 lo)).setCell ⟨w.heap.size, 1, none⟩ (.slice (some ⟨w.heap.size + 1, 0, none⟩) n n)) := (((Ext.refl [w.heap.size] w2).setCell (.inl (by simp)) _).setCell (.inl (by simp)) _)
  refine bodyPost_ret (results_agg Try.results32 _ _ w.heap.size _ _ _ _ rfl (pair_set1 (pair_set0 H.out.2.2)) Try.underlying56 rfl (by kernel_rfl)) rfl ⟨_, rfl, ?_, ?_⟩
  · exact (((Ext.refl [] w).alloc _).trans H.out.2.1).trans' hE3 (fun p hp => .inr (by simp at hp; omega))
  · have ho := H.out.1
    rw [World.size_alloc] at ho
    have hR : RPl w2 (some ⟨w.heap.size + 1, 0, none⟩) lo n S0 := RPl.of_owns ho (fun i hi => by
      have h1 : i * 2 % 2 = 0 := by omega
      have h2 : (i * 2 + 1) % 2 = 1 := by omega
      constructor
      · simp [madeCells, Value.cells]
        exact ⟨i * 2, by rw [List.getElem?_range (by omega)], by rw [h1]; rfl⟩
      · simp [madeCells, Value.cells]
        exact ⟨i * 2 + 1, by rw [List.getElem?_range (by omega)], by rw [h2]; rfl⟩)
    exact hR.apart H.out.2.2 hE3
end Go.Proofs.Ytgpoplnfhlfogaa
