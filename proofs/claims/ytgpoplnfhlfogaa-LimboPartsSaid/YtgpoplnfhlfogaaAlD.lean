/- Package alloc: how many lines are free. -/
import Derived.Test.YtgpoplnfhlfogaaAlC
import Derived.Test.YtgpoplnfhlfogaaRes
namespace Go.Proofs.Ytgpoplnfhlfogaa
open Go Go.RowKit Go.Shelf
attribute [local go_sem] Oper.semAt_some

/-- a result that lies in a cell -/
theorem sel_free (S : Lns) (lo : Int) (n : Nat) : selL (fun k => !(S k).1) lo n = thoseL S false lo n := by
  unfold selL thoseL
  congr 1
  funext k
  cases (S k).1 <;> rfl

set_option maxRecDepth 100000 in
set_option maxHeartbeats 4000000 in
theorem al_Free (c mb : Nat) (lo : Int) (n : Nat) (S : Lns) (w : World) (h0 : -1000000000 ≤ lo) (h1 : lo + n ≤ 1000000000) (h : Pool w c mb lo (lo + (n : Int) - 1) S) :
    Calls Try.prog 23 #[.pointer (some ⟨c, 0, none⟩)] w fun e w' => e = .returned (.int .i64 (thoseL S false lo n).length) ∧ Ext [] w w' := by
  have hE1 := ((Ext.refl [] w).alloc (.cells #[.pointer (some ⟨c, 0, none⟩)] 39)).alloc (.cells #[.int .i64 0] 3)
  have hbp : ((w.alloc (.cells #[.pointer (some ⟨c, 0, none⟩)] 39)).alloc (.cells #[.int .i64 0] 3)).heap[w.heap.size]? = some (.cells #[.pointer (some ⟨c, 0, none⟩)] 39 (0, 0)) := block_al (World.alloc_heap_new _ _)
  have hbn : ((w.alloc (.cells #[.pointer (some ⟨c, 0, none⟩)] 39)).alloc (.cells #[.int .i64 0] 3)).heap[w.heap.size + 1]? = some (.cells #[.int .i64 0] 3 (0, 0)) := by
    have := World.alloc_heap_new (w.alloc (.cells #[.pointer (some ⟨c, 0, none⟩)] 39)) (.cells #[.int .i64 0] 3)
    rwa [World.size_alloc] at this
  have hs1 : ((w.alloc (.cells #[.pointer (some ⟨c, 0, none⟩)] 39)).alloc (.cells #[.int .i64 0] 3)).heap.size = w.heap.size + 2 := by simp
  generalize hw1 : (w.alloc (.cells #[.pointer (some ⟨c, 0, none⟩)] 39)).alloc (.cells #[.int .i64 0] 3) = w1 at *
  have hp1 := h.ext hE1 (by simp) (by simp)
  have hcw : c < w.heap.size := lt_of_block h.1
  have hmw : mb < w.heap.size := h.2.lt
  have H1 := Lib.hid (And.intro hE1 (And.intro hbp (And.intro hbn (And.intro hs1 hp1))))
  have k1 := cell_of (j := 0) (v := .pointer (some ⟨c, 0, none⟩)) hbp rfl
  have k2 := cell_of (j := 0) (v := .int .i64 lo) hp1.1 rfl
  have k3 := cell_of (j := 1) (v := .int .i64 (lo + (n : Int) - 1)) hp1.1 rfl
  have k4 := cell_of (j := 0) (v := .int .i64 0) hbn rfl
  have f4 := free_of hbn 0
  clear h hE1 hbp hbn hs1 hp1
  refine (callsIn_wide (n := 0)).1 (callsIn_of_wp_marks Try.func23 rfl trivial ?_ rfl)
  simp only [Try.ntmps23, List.size_toArray, List.length_cons, List.length_nil, Nat.reduceAdd, Nat.reduceSub, Array.replicate_succ, Array.replicate_zero, List.push_toArray, List.append_toArray, List.nil_append, List.cons_append]
  refine wpIn_wide.2 ?_
  have hcf := enters_of Try.func70 (by kernel_rfl) rfl
  go_wp2_with fail
  refine (al_none c mb lo _ S w1 H1.out.2.2.2.2).mono ?_
  rintro e w' ⟨rfl, rfl⟩
  go_wp2_with fail
  refine (al_those lo _ 70 #[.pointer (some ⟨w.heap.size, 0, none⟩)] _).mono ?_
  rintro e w' ⟨rfl, rfl⟩
  go_wp2
  have hE2 : Ext [w.heap.size + 1] w1 w1 := Ext.refl _ w1
  have hE3 : Ext [w.heap.size + 1] w1 ((w1.alloc (.cells #[.int .i64 lo, .int .i64 (lo + (n : Int) - 1)] 62)).alloc (.cells #[.func (.func 70) #[] #[.pointer (some ⟨w.heap.size, 0, none⟩)]] 69)) := (hE2.alloc _).alloc _
  have hs3 : ((w1.alloc (.cells #[.int .i64 lo, .int .i64 (lo + (n : Int) - 1)] 62)).alloc (.cells #[.func (.func 70) #[] #[.pointer (some ⟨w.heap.size, 0, none⟩)]] 69)).heap.size = w.heap.size + 4 := by simp [H1.out.2.2.2.1]
  have hn3 : ((w1.alloc (.cells #[.int .i64 lo, .int .i64 (lo + (n : Int) - 1)] 62)).alloc (.cells #[.func (.func 70) #[] #[.pointer (some ⟨w.heap.size, 0, none⟩)]] 69)).heap[w.heap.size + 1]? = some (.cells #[.int .i64 0] 3 (0, 0)) := block_al (block_al H1.out.2.2.1)
  have hB3 : ((w1.alloc (.cells #[.int .i64 lo, .int .i64 (lo + (n : Int) - 1)] 62)).alloc (.cells #[.func (.func 70) #[] #[.pointer (some ⟨w.heap.size, 0, none⟩)]] 69)).heap[w.heap.size + 2]? = some (.cells #[.int .i64 lo, .int .i64 (lo + (n : Int) - 1)] 62 (0, 0)) := by
    have := World.alloc_heap_new w1 (.cells #[.int .i64 lo, .int .i64 (lo + (n : Int) - 1)] 62)
    rw [show w1.heap.size = w.heap.size + 2 from H1.out.2.2.2.1] at this
    exact block_al this
  have hF3 : ((w1.alloc (.cells #[.int .i64 lo, .int .i64 (lo + (n : Int) - 1)] 62)).alloc (.cells #[.func (.func 70) #[] #[.pointer (some ⟨w.heap.size, 0, none⟩)]] 69)).heap[w.heap.size + 3]? = some (.cells #[.func (.func 70) #[] #[.pointer (some ⟨w.heap.size, 0, none⟩)]] 69 (0, 0)) := by
    have := World.alloc_heap_new (w1.alloc (.cells #[.int .i64 lo, .int .i64 (lo + (n : Int) - 1)] 62)) (.cells #[.func (.func 70) #[] #[.pointer (some ⟨w.heap.size, 0, none⟩)]] 69)
    rwa [show (w1.alloc (.cells #[.int .i64 lo, .int .i64 (lo + (n : Int) - 1)] 62)).heap.size = w.heap.size + 3 from by simp [H1.out.2.2.2.1]] at this
  rw [show w1.heap.size = w.heap.size + 2 from H1.out.2.2.2.1]
  generalize hw3 : ((w1.alloc (.cells #[.int .i64 lo, .int .i64 (lo + (n : Int) - 1)] 62)).alloc (.cells #[.func (.func 70) #[] #[.pointer (some ⟨w.heap.size, 0, none⟩)]] 69)) = w3 at *
  have H3 := Lib.hid (And.intro hE3 (And.intro hs3 (And.intro hn3 (And.intro hB3 hF3))))
  clear hE2 hE3 hs3 hn3 hB3 hF3 hw3
  refine wpIn_wide.1 (wp_range (gf := 106) (lb := #[.pointer (some ⟨w.heap.size + 2, 0, none⟩), .pointer (some ⟨w.heap.size + 3, 0, none⟩)]) rfl (fun args w => enters_of Try.func106 (by kernel_rfl) rfl args w)
    (those_seq (w.heap.size + 2) (w.heap.size + 3) 70 #[.pointer (some ⟨w.heap.size, 0, none⟩)] lo n (fun k => !(S k).1) (fun W => W.cell? ⟨w.heap.size, 0, none⟩ = some (.pointer (some ⟨c, 0, none⟩)) ∧ Pool W c mb lo (lo + (n : Int) - 1) S) h0 h1 hcf
      (fun W hW i _ => al_free1 w.heap.size c mb lo _ S _ W hW.1 hW.2)) (fun pre x h => by obtain ⟨i, _, _, _, rfl⟩ := okL_last h; rfl) [w.heap.size + 1]
    (fun mm pre W => mm = [w.heap.size + 1] ∧ Ext [w.heap.size + 1] w3 W ∧ W.heap[w.heap.size + 1]? = some (.cells #[.int .i64 pre.length] 3 (0, 0)))
    (fun _ _ => False) ?_ ?_ ?_ ?_ ?_ ?_ ?_ ?_)
  · exact fun mm pre => (Steady.const _ _).and ((Steady.ext (Nat.le_refl _)).and (Steady.block (.inr rfl)))
  · exact fun c => Steady.const _ _
  · rintro mm pre W ⟨_, hE, _⟩
    have hB := hE.at H3.out.2.2.2.1 (by simp)
    have hF := hE.at H3.out.2.2.2.2 (by simp)
    have E1 := H3.out.1.trans hE
    exact ⟨cell_of (j := 0) hB rfl, cell_of (j := 1) hB rfl, cell_of (j := 0) hF rfl, cell_of (j := 0) (E1.at H1.out.2.1 (by simp)) rfl, H1.out.2.2.2.2.ext E1 (by simp; omega) (by simp; omega)⟩
  · intro j hj
    simp at hj
    have := H3.out.2.1
    omega
  · exact ⟨rfl, Ext.refl _ _, H3.out.2.2.1⟩
  · rintro l mm pre x W hl ⟨rfl, hE, hnb⟩ hok
    obtain ⟨i, hi, hsl, rfl, rfl⟩ := okL_last hok
    rw [encI_len] at hnb
    have hle := selL_len_le (fun k => !(S k).1) lo n i (by omega)
    have hle2 : (selL (fun k => !(S k).1) lo i).length ≤ i := by unfold selL; exact Nat.le_trans (List.length_filter_le _ _) (by simp [lnsOf])
    generalize hq : (selL (fun k => !(S k).1) lo i).length = q at *
    have HE := Lib.hid (And.intro hE hnb)
    clear hE hnb hok hsl
    intro K hK
    gi_wp2
    refine hK _ W (Ext.refl [] _) ?_
    intro W' hC
    clear hK K
    have bn := hC.block _ _ HE.out.2 (.inr rfl)
    have k5 := cell_of (j := 0) (v := .int .i64 q) bn rfl
    have f5 := free_of bn 0
    have HN := Lib.hid bn
    have HCA := Lib.hid hC
    clear bn hC k1 k2 k3 k4 f4
    have hw : wrap64 ((q : Int) + 1) = (q : Int) + 1 := IntWalk.wrap64_in _ (by omega)
    gi_wp2
    refine ⟨(Ext.refl _ W').setCell (.inl (by simp)) _, [w.heap.size + 1], Sub.refl _ _, rfl, ((Steady.ext (Nat.le_refl _)) _ _ HE.out.1 HCA.out).setCell (.inl (by simp)) _, ?_⟩
    first | rw [List.length_append, encI_len, hq] | rw [encI_len, hq] | skip
    exact cell1_set HN.out _
  · intro D mm xs W hD hx hi hdD
    obtain ⟨rfl, hE, hnb⟩ := hi
    rw [show xs = encI (selL (fun k => !(S k).1) lo n) from hx, encI_len, sel_free] at hnb
    have k5 := cell_of (j := 0) hnb rfl
    have f5 := free_of hnb 0
    have HNB := Lib.hid (And.intro hnb (And.intro hE hdD))
    clear hnb hE hdD hx k1 k2 k3 k4 f4
    go_wp2
    have hs3 := H3.out.2.1
    have hDne : D ≠ w.heap.size + 1 := by omega
    obtain ⟨W5, hW5⟩ : ∃ W5, W5 = W.setCell ⟨w.heap.size + 1, 0, none⟩ (.int .i64 (thoseL S false lo n).length) := ⟨_, rfl⟩
    have b5 : W5.heap[w.heap.size + 1]? = some (.cells #[.int .i64 (thoseL S false lo n).length] 3 (0, 0)) := by rw [hW5]; exact cell1_set HNB.out.1 _
    have d5 : W5.heap[D]? = some (.deferred (some [])) := by rw [hW5]; exact block_sc hDne HNB.out.2.2
    have e5 : Ext [w.heap.size + 1] w3 W5 := by rw [hW5]; exact HNB.out.2.1.setCell (.inl (by simp)) _
    have fin : ∀ (tmps : Array Value), tmps.getD 2 undef = .pointer (some ⟨w.heap.size + 1, 0, none⟩) → LeavesInM Fence.wide 0 Try.prog Try.f23 tmps (fun e w' => e = .returned (.int .i64 (thoseL S false lo n).length) ∧ Ext [] w w') ([D].map fun D => { target := .collected D, args := #[] }) .returning W5 := by
      intro tmps ht
      refine leaves_marks (v := .int .i64 (thoseL S false lo n).length) [D] W5 (fun D' hD' => ?_) (by simp) (fun w' hE' => ⟨results_cellb Try.results23 _ _ ⟨w.heap.size + 1, 0, none⟩ _ (by kernel_rfl) ht (hE'.cell (cell_of (j := 0) b5 rfl) (by simp; omega)), rfl, ?_⟩)
      · obtain rfl : D' = D := by simpa using hD'
        exact d5
      · exact (H1.out.1.trans' (H3.out.1.trans e5) (fun j hj => .inr (by simp at hj; omega))).trans' hE' (fun j hj => .inr (by simp at hj; omega))
    show LeavesInM _ _ _ _ _ _ _ _ _
    rw [hW5] at fin
    refine fin _ ?_
    rfl
  · intro D c W hD hi hdD
    exact hi.elim
end Go.Proofs.Ytgpoplnfhlfogaa
