/- What is seen of a line: pmem's line, as the law reads it. -/
import Derived.Test.YtfojmjkcjdehaaaPnX
import Derived.Test.YtfojmjkcjdehaaaRwO
import Derived.Test.YtfojmjkcjdehaaaPlB
namespace Go.Proofs.Ytfojmjkcjdehaaa
open Go Go.RowKit Go.Shelf
attribute [local go_sem] Oper.semAt_some

/-- eight words -/
def w8 (F : Wd) : Array Value := #[.int .u64 (F 0), .int .u64 (F 1), .int .u64 (F 2), .int .u64 (F 3), .int .u64 (F 4), .int .u64 (F 5), .int .u64 (F 6), .int .u64 (F 7)]
theorem w8_congr {F G : Wd} (h : ∀ t, t < 8 → F t = G t) : w8 F = w8 G := by
  unfold w8
  rw [h 0 (by omega), h 1 (by omega), h 2 (by omega), h 3 (by omega), h 4 (by omega), h 5 (by omega), h 6 (by omega), h 7 (by omega)]
theorem w8_set (F : Wd) {i : Nat} (hi : i < 8) (v : Int) : (w8 F).setIfInBounds i (.int .u64 v) = w8 (fun j => if j = i then v else F j) := by
  match i, hi with
  | 0, _ => rfl
  | 1, _ => rfl
  | 2, _ => rfl
  | 3, _ => rfl
  | 4, _ => rfl
  | 5, _ => rfl
  | 6, _ => rfl
  | 7, _ => rfl

set_option maxRecDepth 100000 in
set_option maxHeartbeats 4000000 in
theorem pm_seenline (d lb sb : Nat) (D : Dv) (k : Nat) (w : World) (hD : DevAt w d lb sb D) (hn : DvOk D) (hk : k < D.n) :
    Calls Try.prog 33 #[.pointer (some ⟨d, 0, none⟩), .int .i64 k] w fun e w' => e = .returned (.agg (w8 (lineOf D.L k))) ∧ Ext [] w w' := by
  have hn1 := hn.n1
  obtain ⟨w1, hw1⟩ : ∃ w1, (w.alloc (.cells #[.int .u64 0, .int .u64 0, .int .u64 0, .int .u64 0, .int .u64 0, .int .u64 0, .int .u64 0, .int .u64 0] 68)).alloc (.cells #[.int .u64 0, .int .u64 0, .int .u64 0, .int .u64 0, .int .u64 0, .int .u64 0, .int .u64 0, .int .u64 0] 68) = w1 := ⟨_, rfl⟩
  have hE1 : Ext [] w w1 := by rw [← hw1]; exact ((Ext.refl [] w).alloc _).alloc _
  obtain ⟨hb4, hb5, hs1⟩ := al2_heap (w := w) #[.int .u64 0, .int .u64 0, .int .u64 0, .int .u64 0, .int .u64 0, .int .u64 0, .int .u64 0, .int .u64 0] #[.int .u64 0, .int .u64 0, .int .u64 0, .int .u64 0, .int .u64 0, .int .u64 0, .int .u64 0, .int .u64 0] 68 68
  rw [hw1] at hb4 hb5 hs1
  have HN := Lib.hid (And.intro hD (And.intro hn (And.intro hk hn1)))
  have H1 := Lib.hid (And.intro hE1 (And.intro hb4 hb5))
  clear hD hE1 hb4 hb5 hn
  go_enter Try.func33, Try.ntmps33
  go_wp2
  try rw [hw1]
  clear hw1
  go_loopg [6] 8 (fun cnt i wr => ∃ (j : Nat) (F : Wd), i = .int .i64 j ∧ j + cnt = 8 ∧ Ext [] w wr ∧ wr.heap[w.heap.size]? = some (.cells #[.int .u64 0, .int .u64 0, .int .u64 0, .int .u64 0, .int .u64 0, .int .u64 0, .int .u64 0, .int .u64 0] 68 (0, 0)) ∧ wr.heap[w.heap.size + 1]? = some (.cells (w8 F) 68 (0, 0)) ∧ ∀ t, t < j → F t = D.L (8 * k + t))
  case atStart => exact ⟨0, fun _ => 0, rfl, by omega, H1.out.1, H1.out.2.1, H1.out.2.2, fun t ht => by omega⟩
  case round =>
    obtain ⟨j, F, rfl, hj, hE, h4, h5, hF⟩ := hrel
    by_cases hlt : j < 8
    · have hm : wrap64 (8 * (k : Int)) = 8 * (k : Int) := IntWalk.wrap64_in _ (by omega)
      have ha : wrap64 (8 * (k : Int) + (j : Int)) = 8 * (k : Int) + (j : Int) := IntWalk.wrap64_in _ (by omega)
      have hwj : wrap64 ((j : Int) + 1) = (j : Int) + 1 := IntWalk.wrap64_in _ (by omega)
      have hi0 : (0 : Int) ≤ (j : Int) := by omega
      have hi1 : (j : Int) < 8 := by omega
      have hld : D.load (8 * (k : Int) + (j : Int)) = (D.L (8 * k + j), 0) := by
        unfold Dv.load Dv.has
        have h1 : (8 * (k : Int) + (j : Int)).toNat = 8 * k + j := by omega
        rw [decide_eq_true (by omega), decide_eq_true (by omega), h1]
        rfl
      have HL := Lib.hid (pm_Load d lb sb (8 * (k : Int) + (j : Int)) D wr (HN.out.1.ext0 hE) HN.out.2.1)
      have H := Lib.hid (And.intro hE (And.intro h4 (And.intro h5 (And.intro hF (And.intro hj hlt)))))
      clear hE h4 h5 hF hj hlt hk hn1
      go_wp2_with fail
      refine HL.out.mono ?_
      rw [hld]
      rintro e w5 ⟨rfl, hE5⟩
      have b5 := hE5.at H.out.2.2.1 (by simp)
      have f5 : ∀ q, w5.frozen? ⟨w.heap.size + 1, q, none⟩ = false := free_of b5
      have c5 : w5.cell? ⟨w.heap.size + 1, j, none⟩ = some (.int .u64 (F j)) := by
        refine cell_of b5 ?_
        have := H.out.2.2.2.2.2
        match j, this with
        | 0, _ => rfl
        | 1, _ => rfl
        | 2, _ => rfl
        | 3, _ => rfl
        | 4, _ => rfl
        | 5, _ => rfl
        | 6, _ => rfl
        | 7, _ => rfl
      have H5 := Lib.hid (And.intro hE5 b5)
      clear hE5 b5 hld HL
      go_wp2
      go_roundg (8 - (j + 1))
      case measure => have := H.out.2.2.2.2; omega
      case rel =>
        refine ⟨j + 1, fun t => if t = j then D.L (8 * k + j) else F t, by first | (rw [hwj]; rfl) | rfl, by have := H.out.2.2.2.2; omega, (H.out.1.trans H5.out.1).setCell (.inr (by simp)) _, block_sc (by simp) (H5.out.1.at H.out.2.1 (by simp)), ?_, fun t ht => ?_⟩
        · rw [← w8_set F H.out.2.2.2.2.2]
          exact block_set H5.out.2 _
        · dsimp only
          by_cases e : t = j
          · rw [if_pos e, e]
          · rw [if_neg e]
            exact H.out.2.2.2.1 t (by omega)
    · obtain rfl : j = 8 := by omega
      have hw : w8 F = w8 (lineOf D.L k) := w8_congr hF
      rw [hw] at h5
      have k0 := cell_of (j := 0) (v := .int .u64 (lineOf D.L k 0)) h5 rfl
      have k1 := cell_of (j := 1) (v := .int .u64 (lineOf D.L k 1)) h5 rfl
      have k2 := cell_of (j := 2) (v := .int .u64 (lineOf D.L k 2)) h5 rfl
      have k3 := cell_of (j := 3) (v := .int .u64 (lineOf D.L k 3)) h5 rfl
      have k4 := cell_of (j := 4) (v := .int .u64 (lineOf D.L k 4)) h5 rfl
      have k5 := cell_of (j := 5) (v := .int .u64 (lineOf D.L k 5)) h5 rfl
      have k6 := cell_of (j := 6) (v := .int .u64 (lineOf D.L k 6)) h5 rfl
      have k7 := cell_of (j := 7) (v := .int .u64 (lineOf D.L k 7)) h5 rfl
      have q0 := cell_of (j := 0) (v := .int .u64 0) h4 rfl
      have q1 := cell_of (j := 1) (v := .int .u64 0) h4 rfl
      have q2 := cell_of (j := 2) (v := .int .u64 0) h4 rfl
      have q3 := cell_of (j := 3) (v := .int .u64 0) h4 rfl
      have q4 := cell_of (j := 4) (v := .int .u64 0) h4 rfl
      have q5 := cell_of (j := 5) (v := .int .u64 0) h4 rfl
      have q6 := cell_of (j := 6) (v := .int .u64 0) h4 rfl
      have q7 := cell_of (j := 7) (v := .int .u64 0) h4 rfl
      have f4 : ∀ q, wr.frozen? ⟨w.heap.size, q, none⟩ = false := free_of h4
      have H := Lib.hid (And.intro hE (And.intro h4 h5))
      clear hE h4 h5 hF hj hlt hk hn1 hw
      go_wp2
      obtain ⟨W5, hW5⟩ : ∃ W5, W5 = ((((((((wr.setCell ⟨w.heap.size, 0, none⟩ (.int .u64 (lineOf D.L k 0))).setCell ⟨w.heap.size, 1, none⟩ (.int .u64 (lineOf D.L k 1))).setCell ⟨w.heap.size, 2, none⟩ (.int .u64 (lineOf D.L k 2))).setCell ⟨w.heap.size, 3, none⟩ (.int .u64 (lineOf D.L k 3))).setCell ⟨w.heap.size, 4, none⟩ (.int .u64 (lineOf D.L k 4))).setCell ⟨w.heap.size, 5, none⟩ (.int .u64 (lineOf D.L k 5))).setCell ⟨w.heap.size, 6, none⟩ (.int .u64 (lineOf D.L k 6))).setCell ⟨w.heap.size, 7, none⟩ (.int .u64 (lineOf D.L k 7))) := ⟨_, rfl⟩
      have b8 : W5.heap[w.heap.size]? = some (.cells (w8 (lineOf D.L k)) 68 (0, 0)) := by
        rw [hW5]
        exact block_set (block_set (block_set (block_set (block_set (block_set (block_set (block_set H.out.2.1 _) _) _) _) _) _) _) _
      have hE5 : Ext [] w W5 := by
        rw [hW5]
        iterate 8 refine Ext.setCell ?_ (.inr (Nat.le_refl _)) _
        exact H.out.1
      rw [← hW5]
      exact bodyPost_ret (results_agg Try.results33 _ _ w.heap.size _ (w8 (lineOf D.L k)) _ _ rfl b8 Try.underlying68 rfl (by kernel_rfl)) rfl ⟨rfl, hE5⟩
end Go.Proofs.Ytfojmjkcjdehaaa
