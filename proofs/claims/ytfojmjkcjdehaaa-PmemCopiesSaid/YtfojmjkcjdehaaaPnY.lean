/- The walk of the law PmemCopies. -/
import Derived.Test.YtfojmjkcjdehaaaPnX
namespace Go.Proofs.Ytfojmjkcjdehaaa
open Go Go.RowKit Go.Shelf
attribute [local go_sem] Oper.semAt_some

set_option maxRecDepth 100000 in
set_option maxHeartbeats 8000000 in
theorem pm_copies (ao : Option Addr) (n cap : Nat) (A : Nat → PAct) (x y : PAct) (many : Int) (w : World) (hp : PActs w ao n A) (hr : n * 64 ≤ 140737488351232) (hA : ∀ i, i < n → PActOk (A i))
    (hxi : BoolsAt w x.bo x.n x.M) (hyi : BoolsAt w y.bo y.n y.M) (hx : PActOk x) (hy : PActOk y) :
    Calls Try.prog 6 #[.slice ao n cap, .agg #[.int .i64 x.what, .int .i64 x.at', .int .i64 x.line, .int .u64 x.wd, .int .u64 x.fr, .slice x.bo x.n x.cap], .agg #[.int .i64 y.what, .int .i64 y.at', .int .i64 y.line, .int .u64 y.wd, .int .u64 y.fr, .slice y.bo y.n y.cap], .int .i64 many] w fun e w' => e = .returned (.bool true) ∧ Ext [] w w' := by
  unfold PActOk maxLen at hA hx hy
  have HW := Lib.hid pm_works
  obtain ⟨w3, hw3⟩ : ∃ w3, ((w.alloc (.cells #[.int .i64 x.what, .int .i64 x.at', .int .i64 x.line, .int .u64 x.wd, .int .u64 x.fr, .slice x.bo x.n x.cap] 39)).alloc (.cells #[.int .i64 y.what, .int .i64 y.at', .int .i64 y.line, .int .u64 y.wd, .int .u64 y.fr, .slice y.bo y.n y.cap] 39)).alloc (.cells #[.int .i64 many] 3) = w3 := ⟨_, rfl⟩
  have hE3 : Ext [] w w3 := by rw [← hw3]; exact (((Ext.refl _ _).alloc _).alloc _).alloc _
  have hs3 : w3.heap.size = w.heap.size + 3 := by rw [← hw3]; simp
  obtain ⟨w0, hw0⟩ : ∃ w0, w3.alloc (.cells #[.bool false] 4) = w0 := ⟨_, rfl⟩
  have hE0 : Ext [] w3 w0 := by rw [← hw0]; exact (Ext.refl _ _).alloc _
  have hbs : w0.heap[w.heap.size]? = some (.cells #[.int .i64 x.what, .int .i64 x.at', .int .i64 x.line, .int .u64 x.wd, .int .u64 x.fr, .slice x.bo x.n x.cap] 39 (0, 0)) ∧ w0.heap[w.heap.size + 1]? = some (.cells #[.int .i64 y.what, .int .i64 y.at', .int .i64 y.line, .int .u64 y.wd, .int .u64 y.fr, .slice y.bo y.n y.cap] 39 (0, 0)) ∧
      w0.heap[w.heap.size + 2]? = some (.cells #[.int .i64 many] 3 (0, 0)) ∧ w0.heap[w.heap.size + 3]? = some (.cells #[.bool false] 4 (0, 0)) ∧ w0.heap.size = w.heap.size + 4 := by
    rw [← hw0, ← hw3]
    exact al4_heap _ _ _ _ _ _ _ _
  have fin : Hid (∀ (Ds : List Nat) (W : World) (x : Value), (∀ D ∈ Ds, W.heap[D]? = some (.deferred (some [])) ∧ w.heap.size + 3 < D) → Ds.Nodup → W.heap[w.heap.size + 3]? = some (.cells #[x] 4 (0, 0)) → Ext [] w W → ∀ tmps : Array Value, tmps.getD 8 undef = .pointer (some ⟨w.heap.size + 3, 0, none⟩) →
      LeavesInM Fence.wide 0 Try.prog Try.f6 tmps (fun e w' => e = .returned (.bool true) ∧ Ext [] w w') (Ds.map fun D => { target := .collected D, args := #[] }) .returning (W.setCell ⟨w.heap.size + 3, 0, none⟩ (.bool true))) := by
    intro Ds W x hD hnd hb hE tmps ht
    obtain ⟨W5, hW5⟩ : ∃ W5, W5 = W.setCell ⟨w.heap.size + 3, 0, none⟩ (.bool true) := ⟨_, rfl⟩
    have b5 : W5.heap[w.heap.size + 3]? = some (.cells #[.bool true] 4 (0, 0)) := by rw [hW5]; exact cell1_set hb _
    have e5 : Ext [] w W5 := by rw [hW5]; exact hE.setCell (.inr (by simp)) _
    have d5 : ∀ D ∈ Ds, W5.heap[D]? = some (.deferred (some [])) := fun D hd => by rw [hW5]; exact block_sc (show D ≠ w.heap.size + 3 by have := (hD D hd).2; omega) (hD D hd).1
    rw [← hW5]
    exact leaves_marks (v := .bool true) Ds W5 d5 hnd (fun w' hE' => ⟨results_cellb Try.results6 _ _ ⟨w.heap.size + 3, 0, none⟩ _ (by kernel_rfl) ht (hE'.cell (cell_of (j := 0) b5 rfl) (fun hm => by have := (hD _ hm).2; simp at this)), rfl, e5.trans' hE' (fun j hj => .inr (by have := (hD j hj).2; omega))⟩)
  have HP := Lib.hid (And.intro hp (And.intro hA (And.intro hxi (And.intro hyi (And.intro hx (And.intro hy hr))))))
  have H0 := Lib.hid (And.intro hE3 (And.intro hE0 (And.intro hbs hs3)))
  have HF := Lib.hid (fun (W : World) (bo : Option Addr) (bcap : Nat) (hq : PActs W bo (n + 2) (behind A n x y)) => pm_few bo (n + 2) bcap (behind A n x y) 22 W hq (by omega)
    (fun i _ => behind_any (p := fun a => a.n ≤ 9223372036854775807) hA hx hy i))
  have HB : Hid (∀ W, Ext [] w3 W → W.heap[w.heap.size]? = some (.cells #[.int .i64 x.what, .int .i64 x.at', .int .i64 x.line, .int .u64 x.wd, .int .u64 x.fr, .slice x.bo x.n x.cap] 39 (0, 0)) ∧ W.heap[w.heap.size + 1]? = some (.cells #[.int .i64 y.what, .int .i64 y.at', .int .i64 y.line, .int .u64 y.wd, .int .u64 y.fr, .slice y.bo y.n y.cap] 39 (0, 0)) ∧ W.heap[w.heap.size + 2]? = some (.cells #[.int .i64 many] 3 (0, 0))) := by
    intro W hE
    have key : ∀ k, k < w.heap.size + 3 → W.heap[k]? = w0.heap[k]? := fun k hk => (hE.block k (by omega) (by simp)).trans (hE0.block k (by omega) (by simp)).symm
    exact ⟨(key _ (by omega)).trans hbs.1, (key _ (by omega)).trans hbs.2.1, (key _ (by omega)).trans hbs.2.2.1⟩
  obtain ⟨x0, x1, x2, x3, x4⟩ := hbs
  have k0 := cell_of (j := 0) (v := .int .i64 x.what) x0 rfl
  have k1 := cell_of (j := 1) (v := .int .i64 x.at') x0 rfl
  have k2 := cell_of (j := 2) (v := .int .i64 x.line) x0 rfl
  have k3 := cell_of (j := 3) (v := .int .u64 x.wd) x0 rfl
  have k4 := cell_of (j := 4) (v := .int .u64 x.fr) x0 rfl
  have k5 := cell_of (j := 5) (v := .slice x.bo x.n x.cap) x0 rfl
  have k6 := cell_of (j := 0) (v := .int .i64 y.what) x1 rfl
  have k7 := cell_of (j := 1) (v := .int .i64 y.at') x1 rfl
  have k8 := cell_of (j := 2) (v := .int .i64 y.line) x1 rfl
  have k9 := cell_of (j := 3) (v := .int .u64 y.wd) x1 rfl
  have k10 := cell_of (j := 4) (v := .int .u64 y.fr) x1 rfl
  have k11 := cell_of (j := 5) (v := .slice y.bo y.n y.cap) x1 rfl
  clear hE3 hE0 hp hA hxi hyi hx hy hr x0 x1 x2 x3 x4
  refine (callsIn_wide (n := 0)).1 (callsIn_of_wp_marks Try.func6 rfl trivial ?_ rfl)
  simp only [Try.ntmps6, List.size_toArray, List.length_cons, List.length_nil, Nat.reduceAdd, Nat.reduceSub, Array.replicate_succ, Array.replicate_zero, List.push_toArray, List.append_toArray, List.nil_append, List.cons_append]
  refine wpIn_wide.2 (wp_mono (Q := NoPanic (bodyPostM Fence.wide 0 Try.prog Try.f6 fun e w' => e = .returned (.bool true) ∧ Ext [] w w')) ?_ NoPanic.out)
  go_upto_region 1 with fail
  clear hw3 hw0 hs3
  go_cut [30] from 22 to 30 (fun s wx => s = .bool (!fewP (n + 2) (behind A n x y) 22) ∧ Ext [] w0 wx)
  case first =>
    obtain ⟨i0, hi, hz0, hz1, hz2⟩ := info_parts infoAct
    have hsA : RowSrc w0 ao n 6 (rowC (fun i => pactR (A i)) n) := (HP.out.1.row.src (pactR_ok n A)).ext (H0.out.1.trans H0.out.2.1) (fun _ _ => by simp)
    have HI : Hid (∀ W, Ext [] w0 W → ∀ i, i < n + 2 → BoolsAt W (behind A n x y i).bo (behind A n x y i).n (behind A n x y i).M) := by
      intro W hE i hi
      have hEW := (H0.out.1.trans H0.out.2.1).trans hE
      unfold behind
      split
      · exact (HP.out.1.bools ‹_›).ext hEW
      · split
        · exact HP.out.2.2.1.ext hEW
        · exact HP.out.2.2.2.1.ext hEW
    have HSA := Lib.hid hsA
    have HZ : Hid (w0.heap.size = w.heap.size + 4 ∧ n * 64 ≤ 140737488351232) := ⟨H0.out.2.2.1.2.2.2.2, HP.out.2.2.2.2.2.2⟩
    clear hsA
    have hI1 := Lib.hid hi
    have hI2 := Lib.hid hz0
    have hI3 := Lib.hid hz1
    have hI4 := Lib.hid hz2
    clear hi hz0 hz1 hz2
    go_region_held3 (fun w' => w'.cell? ⟨w.heap.size, 0, none⟩ = some (.int .i64 x.what) ∧ w'.cell? ⟨w.heap.size, 1, none⟩ = some (.int .i64 x.at') ∧ w'.cell? ⟨w.heap.size, 2, none⟩ = some (.int .i64 x.line) ∧ w'.cell? ⟨w.heap.size, 3, none⟩ = some (.int .u64 x.wd) ∧ w'.cell? ⟨w.heap.size, 4, none⟩ = some (.int .u64 x.fr) ∧ w'.cell? ⟨w.heap.size, 5, none⟩ = some (.slice x.bo x.n x.cap) ∧
        w'.cell? ⟨w.heap.size + 1, 0, none⟩ = some (.int .i64 y.what) ∧ w'.cell? ⟨w.heap.size + 1, 1, none⟩ = some (.int .i64 y.at') ∧ w'.cell? ⟨w.heap.size + 1, 2, none⟩ = some (.int .i64 y.line) ∧ w'.cell? ⟨w.heap.size + 1, 3, none⟩ = some (.int .u64 y.wd) ∧ w'.cell? ⟨w.heap.size + 1, 4, none⟩ = some (.int .u64 y.fr) ∧ w'.cell? ⟨w.heap.size + 1, 5, none⟩ = some (.slice y.bo y.n y.cap))
      (first
        | go_keep
        | (have hXX : Ext [] w0 w5 := by (refine hX5 w0 ?_ (Nat.le_refl _); repeat (first | exact Ext.refl [] _ | refine Ext.drew ?_ | refine Ext.alloc ?_ _))
           exact ⟨hXX.cell k0 (by simp) , hXX.cell k1 (by simp) , hXX.cell k2 (by simp) , hXX.cell k3 (by simp) , hXX.cell k4 (by simp) , hXX.cell k5 (by simp) , hXX.cell k6 (by simp) , hXX.cell k7 (by simp) , hXX.cell k8 (by simp) , hXX.cell k9 (by simp) , hXX.cell k10 (by simp) , hXX.cell k11 (by simp)⟩)
        | exact ⟨hX.cell k0 (by simp) , hX.cell k1 (by simp) , hX.cell k2 (by simp) , hX.cell k3 (by simp) , hX.cell k4 (by simp) , hX.cell k5 (by simp) , hX.cell k6 (by simp) , hX.cell k7 (by simp) , hX.cell k8 (by simp) , hX.cell k9 (by simp) , hX.cell k10 (by simp) , hX.cell k11 (by simp)⟩)
      ((first
        | ((refine step_append_any (by rfl) (.tmp 22) (.tmp 23) 22 (by rfl) w0.heap.size 39 i0 (.agg #[.int .i64 0, .int .i64 0, .int .i64 0, .int .u64 0, .int .u64 0, .slice none 0 0]) 6 64 Try.underlying22 hI1.out hI2.out hI3.out hI4.out rfl (by omega) (.slice (some ⟨w0.heap.size, 0, none⟩) 0 0) 0 [] (by rfl) ?_ ao n cap (rowC (fun i => pactR (A i)) n) (by rfl) ?_ ?_ ?_ ?_ ?_)
           · (refine owns_empty ?_ ?_
              · (first | exact World.alloc_heap_new _ _ | exact (al2_heap _ _ _ _).1 | exact (al2_heap _ _ _ _).2.1)
              · simp)
           · (refine HSA.out.ext (k := []) ?_ (fun _ _ => by simp)
              repeat (first | exact Ext.refl [] _ | refine Ext.drew ?_ | refine Ext.alloc ?_ _))
           · (have := HZ.out.2; unfold maxLen; omega)
           · (have := HZ.out.2; omega)
           · (simp; try omega)
           intro v1 w5 ho1 hE5 hX5)
        | ((refine step_append_any (by rfl) (.tmp 22) (.tmp 23) 22 (by rfl) w0.heap.size 39 i0 (.agg #[.int .i64 0, .int .i64 0, .int .i64 0, .int .u64 0, .int .u64 0, .slice none 0 0]) 6 64 Try.underlying22 hI1.out hI2.out hI3.out hI4.out rfl (by omega) (.slice (some ⟨w0.heap.size + 1, 0, none⟩) 0 0) 0 [] (by rfl) ?_ ao n cap (rowC (fun i => pactR (A i)) n) (by rfl) ?_ ?_ ?_ ?_ ?_)
           · (refine owns_empty ?_ ?_
              · (first | exact World.alloc_heap_new _ _ | exact (al2_heap _ _ _ _).1 | exact (al2_heap _ _ _ _).2.1)
              · simp)
           · (refine HSA.out.ext (k := []) ?_ (fun _ _ => by simp)
              repeat (first | exact Ext.refl [] _ | refine Ext.drew ?_ | refine Ext.alloc ?_ _))
           · (have := HZ.out.2; unfold maxLen; omega)
           · (have := HZ.out.2; omega)
           · (simp; try omega)
           intro v1 w5 ho1 hE5 hX5)
        | ((refine step_append_any (by rfl) (.tmp 24) (.tmp 27) 22 (by rfl) w0.heap.size 39 i0 (.agg #[.int .i64 0, .int .i64 0, .int .i64 0, .int .u64 0, .int .u64 0, .slice none 0 0]) 6 64 Try.underlying22 hI1.out hI2.out hI3.out hI4.out rfl (by omega) _ (0 + n) ([] ++ rowC (fun i => pactR (A i)) n) (by rfl) ?_ _ 2 2 (pactR x ++ pactR y) (by rfl) ?_ ?_ ?_ ?_ ?_)
           · (first | exact ho1 | exact ho1.alloc _)
           · (refine .inr ⟨_, rfl, rfl, World.news_of_block (cs := #[.int .i64 x.what, .int .i64 x.at', .int .i64 x.line, .int .u64 x.wd, .int .u64 x.fr, .slice x.bo x.n x.cap, .int .i64 y.what, .int .i64 y.at', .int .i64 y.line, .int .u64 y.wd, .int .u64 y.fr, .slice y.bo y.n y.cap]) (t := 39) (fr := (0, 0)) ?_, ?_⟩
              · (first | exact World.alloc_heap_new _ _ | exact hE5.at (al2_heap _ _ _ _).2.1 (by simp [Value.ownBlock]) | exact hE5.at (al2_heap _ _ _ _).1 (by simp [Value.ownBlock]))
              · simp [pactR, Value.oneCell'])
           · (have := HZ.out.2; unfold maxLen; omega)
           · (have := HZ.out.2; omega)
           · (have := hE5.size; simp at this ⊢; omega)
           intro v2 w6 ho2 hE6 hX6
           have hX : Ext [] w0 w6 := by
             refine hX6 w0 ?_ (Nat.le_refl _)
             first
               | (refine hX5 w0 ?_ (Nat.le_refl _); repeat (first | exact Ext.refl [] _ | refine Ext.drew ?_ | refine Ext.alloc ?_ _))
               | (refine Ext.alloc (hX5 w0 ?_ (Nat.le_refl _)) _; repeat (first | exact Ext.refl [] _ | refine Ext.drew ?_ | refine Ext.alloc ?_ _))
           obtain ⟨bo, bcap, rfl, hq⟩ := behind_acts ho2 (HI.out w6 hX)
           have HQ := Lib.hid hq
           clear hq ho2 hE6 hX6)
        | (go_at_call 12; refine (HF.out _ _ _ HQ.out).mono ?_; rintro e w' ⟨rfl, rfl⟩)))
    all_goals (go_wp2_with fail; go_meet; exact ⟨rfl, hX⟩)
  case rest =>
    obtain ⟨rfl, hEc⟩ := hcut
    clear k0 k1 k2 k3 k4 k5 k6 k7 k8 k9 k10 k11
    cases hf : fewP (n + 2) (behind A n x y) 22 with
    | false =>
      clear HF hf
      go_wp2_with fail
      refine (HW.out _).mono ?_
      rintro e w2 ⟨rfl, hE2⟩
      have hb2 := (hEc.trans hE2).at H0.out.2.2.1.2.2.2.1 (by simp)
      have k2 := cell_of (j := 0) (v := .bool false) hb2 rfl
      have f2 := free_of hb2 0
      have H2 := Lib.hid (And.intro (((H0.out.1.trans H0.out.2.1).trans hEc).trans hE2) hb2)
      clear hE2 hb2 hEc
      go_wp2
      show LeavesInM _ _ _ _ _ _ _ _ _
      refine fin.out [] w2 (.bool false) (fun D hD => (by cases hD)) (by simp) H2.out.2 H2.out.1 _ ?_
      rfl
    | true =>
      have HFW := Lib.hid (fewP_true hf)
      have HEC := Lib.hid hEc
      clear HF hf hEc
      have HN := Lib.hid (pm_New 5 wc (by omega) (by omega))
      have HRN : Hid (∀ W : World, Calls Try.prog 27 #[.int .i64 5] W fun e w' => ∃ v', e = .returned v' ∧ Ext [] W w' ∧ RefAt w' v' (dvNew 5)) := fun W => rf_New 5 W (by omega) (by omega)
      go_wp2_with fail
      refine HN.out.mono ?_
      rintro e w1 ⟨rfl, hE1, lb, sb, hD1, hlb, hsb⟩
      obtain ⟨d, hd⟩ : ∃ d, wc.heap.size + 2 = d := ⟨_, rfl⟩
      rw [hd] at hD1 ⊢
      have H1 := Lib.hid (And.intro hE1 (And.intro hD1 (And.intro (show wc.heap.size ≤ d by omega) (And.intro hlb hsb))))
      clear hE1 hD1 hlb hsb hd HN
      go_wp2_with fail
      refine (HRN.out _).mono ?_
      rintro e w2 ⟨v2, rfl, hE2, hR2⟩
      have hR2' := hR2
      obtain ⟨sg0, sc0, tg0, tc0, wo0, wc0, rfl, r1, r2, r3⟩ := hR2'
      obtain ⟨W3, hW3⟩ : ∃ W3, w2.alloc (.cells #[.slice (some ⟨sg0, 0, none⟩) (dvNew 5).n sc0, .slice (some ⟨tg0, 0, none⟩) (dvNew 5).n tc0, .slice wo0 (dvNew 5).W.length wc0] 33) = W3 := ⟨_, rfl⟩
      have hst : ∃ g, w2.heap.size = g ∧ PlSt w3 W3 5 d lb sb g (dvNew 5) := by
        have hE3 : Ext [] w2 W3 := by rw [← hW3]; exact (Ext.refl _ _).alloc _
        have hEw : Ext [] w0 W3 := ((HEC.out.trans H1.out.1).trans hE2).trans hE3
        have h3 := H1.out.2.2
        have h4 := hE2.size
        have h5 := H1.out.1.size
        have h6 := HEC.out.size
        have h7 := H0.out.2.2.1.2.2.2.2
        have h8 := H0.out.2.2.2
        refine ⟨_, rfl, H1.out.2.1.ext0 (hE2.trans hE3), dvNew_ok (by omega) (by omega), rfl, ⟨sg0, sc0, tg0, tc0, wo0, wc0, by rw [← hW3]; exact World.alloc_heap_new _ _, ?_⟩, by rw [H0.out.2.2.2]; exact hEw.at H0.out.2.2.1.2.2.2.1 (by simp), H0.out.2.1.trans hEw, by omega, by omega, by omega, by omega⟩
        exact RefAt.ext0 ⟨sg0, sc0, tg0, tc0, wo0, wc0, rfl, r1, r2, r3⟩ hE3
      obtain ⟨g, hg, hst⟩ := hst
      have HS0 := Lib.hid hst
      have hn20 : n ≤ 20 := by have := HFW.out.2; omega
      clear hE2 hR2 hst r1 r2 r3 HRN
      go_wp2_with fail
      try rw [hW3]
      try rw [hg]
      clear hg hW3
      go_loopg [9, 12] n (fun k p i wr => ∃ (j d lb sb : Nat) (D : Dv), p = .pointer (some ⟨d, 0, none⟩) ∧ i = .int .i64 j ∧ j + k = n ∧ PlSt w3 wr 5 d lb sb g D)
      case atStart => exact ⟨0, d, lb, sb, dvNew 5, rfl, rfl, by omega, HS0.out⟩
      case round =>
        obtain ⟨j, d, lb, sb, D, rfl, rfl, hj, hst⟩ := hrel
        have HS := Lib.hid hst
        clear hst H1 HS0
        by_cases hlt : j < n
        · obtain ⟨b, off, rfl, x0, x1, x2, x3, x4, x5, x6⟩ : ∃ b off, ao = some ⟨b, off, none⟩ ∧ w.cell? ⟨b, off + j * 6, none⟩ = some (.int .i64 (A j).what) ∧ w.cell? ⟨b, off + j * 6 + 1, none⟩ = some (.int .i64 (A j).at') ∧ w.cell? ⟨b, off + j * 6 + 2, none⟩ = some (.int .i64 (A j).line) ∧ w.cell? ⟨b, off + j * 6 + 3, none⟩ = some (.int .u64 (A j).wd) ∧ w.cell? ⟨b, off + j * 6 + 4, none⟩ = some (.int .u64 (A j).fr) ∧ w.cell? ⟨b, off + j * 6 + 5, none⟩ = some (.slice (A j).bo (A j).n (A j).cap) ∧ BoolsAt w (A j).bo (A j).n (A j).M := by
            rcases HP.out.1 with h | ⟨b, off, h1, h2⟩
            · omega
            · exact ⟨b, off, h1, h2 j hlt⟩
          have HM := Lib.hid x6
          have HMN := Lib.hid (HP.out.2.1 j hlt)
          have hEw : Ext [] w wr := H0.out.1.trans HS.out.ext
          have x0 := hEw.cell x0 (by simp)
          have x1 := hEw.cell x1 (by simp)
          have x2 := hEw.cell x2 (by simp)
          have x3 := hEw.cell x3 (by simp)
          have x4 := hEw.cell x4 (by simp)
          have x5 := hEw.cell x5 (by simp)
          obtain ⟨sg, sc, tg, tc, wo, wk, hgc, hgR⟩ := HS.out.want
          have hgn := HS.out.want.ne HS.out.dev
          obtain ⟨q0, q1, q2⟩ := three hgc
          have HACT := Lib.hid (fun W (hE : Ext [] wr W) => pm_act d lb sb D D (.agg #[.slice (some ⟨sg, 0, none⟩) D.n sc, .slice (some ⟨tg, 0, none⟩) D.n tc, .slice wo D.W.length wk]) (A j) W (HS.out.dev.ext0 hE) HS.out.ok (hgR.ext0 hE) HS.out.ok rfl (fun W' hE' => HM.out.ext (H0.out.1.trans (HS.out.extD (hE.wide.trans hE')))) HMN.out)
          have HGC := Lib.hid (And.intro hgc hgn)
          have hi0 : (0 : Int) ≤ (j : Int) := by omega
          have hi1 : (j : Int) < (n : Int) := by omega
          have HJ := Lib.hid (And.intro hj (And.intro hlt hn20))
          clear hj hlt hn20 hgc hgn hgR hEw x6
          go_wp2
          go_region_with (go_at_call 15; refine (HACT.out _ ?_).mono ?_; (first | exact Ext.drew (Ext.refl _ _) | exact Ext.refl _ _); rintro e w5 ⟨d', lb', sb', v5, b5, rfl, hE5w, hD5, hR5, hd5, hl5, hs5, _⟩; have hR5' := hR5; obtain ⟨sg5, sc5, tg5, tc5, wo5, wk5, rfl, _, _, _⟩ := hR5'; have hE5 : Ext [d, lb, sb] wr w5 := (by first | exact (Ext.refl [d, lb, sb] wr).drew.trans hE5w | exact hE5w); have wg := hE5.at HGC.out.1 HGC.out.2; obtain ⟨r0, r1, r2⟩ := three wg; have fr0 := free_of wg 0; have fr1 := free_of wg 1; have fr2 := free_of wg 2; have H5 := Lib.hid (And.intro hE5 (And.intro hD5 (And.intro hR5 (And.intro (show d' = d ∨ wr.heap.size ≤ d' from hd5) (And.intro (show lb' = lb ∨ wr.heap.size ≤ lb' from hl5) (show sb' = sb ∨ wr.heap.size ≤ sb' from hs5)))))); clear hE5 hE5w hD5 hR5 hd5 hl5 hs5 wg q0 q1 q2 x0 x1 x2 x3 x4 x5)
          all_goals go_wp2
          all_goals
            have HST := Lib.hid (HS.out.acted H5.out.1 H5.out.2.2.2.1 H5.out.2.2.2.2.1 H5.out.2.2.2.2.2 H5.out.2.1 (actD_ok HS.out.ok _) ((actD_n _ _).trans HS.out.nn) H5.out.2.2.1)
            go_roundg (n - (j + 1))
          all_goals
            have hjk := HJ.out.1
            have hn20 := HJ.out.2.2
            have hjl := HJ.out.2.1
            have hwj : wrap64 ((j : Int) + 1) = (j : Int) + 1 := IntWalk.wrap64_in _ (by omega)
          all_goals first
            | omega
            | exact ⟨j + 1, d', lb', sb', _, rfl, by (first | (rw [hwj]; rfl) | (simp [hwj]) | go_num), by omega, by simpa using HST.out⟩
        · have hd : decide (j < n) = false := by simpa using hlt
          have HJ := Lib.hid (And.intro hj (And.intro hn20 hlt))
          clear hj hn20 hlt
          go_wp2_with fail
          refine (pm_Copy d lb sb D wr HS.out.dev HS.out.ok).mono ?_
          rintro e w5 ⟨d2, lb2, sb2, rfl, hE5, hD5, hd2, hl2, hs2⟩
          have H5 := Lib.hid (And.intro hE5 (And.intro hD5 (And.intro hd2 (And.intro hl2 hs2))))
          clear hE5 hD5 hd2 hl2 hs2
          go_wp2_with fail
          refine (pm_Waits d lb sb D w5 (HS.out.dev.ext0 H5.out.1) HS.out.ok).mono ?_
          rintro e w6 ⟨bw, qo, qc, rfl, hE6, hKB, hbw, _⟩
          have H6 := Lib.hid (And.intro hE6 (And.intro hKB hbw))
          have S6 := Lib.hid (HS.out.ext1 (H5.out.1.trans hE6))
          have HN : Hid ((d < wr.heap.size ∧ lb < wr.heap.size ∧ sb < wr.heap.size ∧ g < wr.heap.size ∧ w3.heap.size < wr.heap.size) ∧ (wr.heap.size ≤ d2 ∧ wr.heap.size ≤ lb2 ∧ wr.heap.size ≤ sb2) ∧ (d2 < w5.heap.size ∧ lb2 < w5.heap.size ∧ sb2 < w5.heap.size) ∧ w5.heap.size ≤ bw ∧ bw < w6.heap.size ∧ (w3.heap.size < d ∧ w3.heap.size < lb ∧ w3.heap.size < sb ∧ w3.heap.size < g) ∧ wr.heap.size ≤ w5.heap.size ∧ w3.heap.size = w.heap.size + 3) := by
            obtain ⟨a1, a2, a3⟩ := HS.out.dev.lt
            obtain ⟨b1, b2, b3⟩ := H5.out.2.1.lt
            exact ⟨⟨a1, a2, a3, HS.out.want.lt, lt_of_block HS.out.res⟩, H5.out.2.2, ⟨b1, b2, b3⟩, hbw, hKB.lt, ⟨HS.out.hd, HS.out.hl, HS.out.hs, HS.out.hg⟩, H5.out.1.size, H0.out.2.2.2⟩
          clear hE6 hKB hbw
          obtain ⟨sg, sc, tg, tc, wo, wk, hgc, hgR⟩ := S6.out.want
          obtain ⟨q0, q1, q2⟩ := three hgc
          have hx0 := (HB.out w6 S6.out.ext).1
          have k0 := cell_of (j := 0) (v := .int .i64 x.what) hx0 rfl
          have k1 := cell_of (j := 1) (v := .int .i64 x.at') hx0 rfl
          have k2 := cell_of (j := 2) (v := .int .i64 x.line) hx0 rfl
          have k3 := cell_of (j := 3) (v := .int .u64 x.wd) hx0 rfl
          have k4 := cell_of (j := 4) (v := .int .u64 x.fr) hx0 rfl
          have k5 := cell_of (j := 5) (v := .slice x.bo x.n x.cap) hx0 rfl
          have HGR := Lib.hid hgR
          clear hgc hgR hx0
          go_wp2_with fail
          clear q0 q1 q2 k0 k1 k2 k3 k4 k5
          refine (pm_act d2 lb2 sb2 D D _ x w6 (H5.out.2.1.ext0 H6.out.1) HS.out.ok HGR.out HS.out.ok rfl
            (fun w' hE' => HP.out.2.2.1.ext ((H0.out.1.trans S6.out.ext).trans' hE' (fun q hq => .inr (by have := HN.out; simp at hq; omega)))) HP.out.2.2.2.2.1).mono ?_
          rintro e w7 ⟨d3, lb3, sb3, v3, b3, rfl, hE7, hD7, hR7, hd3, hl3, hs3, hb3⟩
          obtain rfl : b3 = true := hb3 rfl
          have hR7' := hR7
          obtain ⟨sg3, sc3, tg3, tc3, wo3, wk3, rfl, _, _, _⟩ := hR7'
          have hok2 := actD_ok HS.out.ok x
          have hnn2 := (actD_n D x).trans HS.out.nn
          obtain ⟨D2, hD2⟩ : ∃ D2, actD D x = D2 := ⟨_, rfl⟩
          rw [hD2] at hD7 hR7 hok2 hnn2 ⊢
          obtain ⟨W8, hW8⟩ : ∃ W8, w7.alloc (.cells #[.slice (some ⟨sg3, 0, none⟩) D2.n sc3, .slice (some ⟨tg3, 0, none⟩) D2.n tc3, .slice wo3 D2.W.length wk3] 33) = W8 := ⟨_, rfl⟩
          have hE78 : Ext [] w7 W8 := by rw [← hW8]; exact (Ext.refl _ _).alloc _
          have H7 : Hid (PlSt w3 W8 5 d lb sb g D ∧ DevAt W8 d3 lb3 sb3 D2 ∧ WantAt W8 w7.heap.size D2 ∧ WKB bw (.slice qo D.W.length qc) D.W W8 ∧ (DvOk D2 ∧ D2.n = 5) ∧ (w6.heap.size ≤ w7.heap.size ∧ w7.heap.size < W8.heap.size ∧ bw < W8.heap.size) ∧ ((d3 = d2 ∨ w6.heap.size ≤ d3) ∧ (lb3 = lb2 ∨ w6.heap.size ≤ lb3) ∧ (sb3 = sb2 ∨ w6.heap.size ≤ sb3)) ∧ (w5.heap.size ≤ w6.heap.size)) := by
            have hn := HN.out
            have h6 := H6.out.1.size
            have hD6 := H5.out.2.1.ext0 H6.out.1
            have hkb := (H6.out.2.1.extD hD6 hE7 (by simp; omega)).ext0 hE78
            refine ⟨(S6.out.extO hD6 hE7 (by simp; omega) (by simp; omega) (by simp; omega) (fun q hq => by simp at hq; omega)).ext1 hE78, hD7.ext0 hE78, ⟨sg3, sc3, tg3, tc3, wo3, wk3, by rw [← hW8]; exact World.alloc_heap_new _ _, hR7.ext0 hE78⟩, hkb, ⟨hok2, hnn2⟩, ⟨hE7.size, by rw [← hW8]; simp, hkb.lt⟩, ⟨hd3, hl3, hs3⟩, h6⟩
          clear hE7 hD7 hR7 hd3 hl3 hs3 hok2 hnn2 hE78 hD2 hb3 S6 HGR
          obtain ⟨sg, sc, tg, tc, wo, wk, hgc, hgR⟩ := H7.out.1.want
          obtain ⟨q0, q1, q2⟩ := three hgc
          have hy0 := (HB.out W8 H7.out.1.ext).2.1
          have k0 := cell_of (j := 0) (v := .int .i64 y.what) hy0 rfl
          have k1 := cell_of (j := 1) (v := .int .i64 y.at') hy0 rfl
          have k2 := cell_of (j := 2) (v := .int .i64 y.line) hy0 rfl
          have k3 := cell_of (j := 3) (v := .int .u64 y.wd) hy0 rfl
          have k4 := cell_of (j := 4) (v := .int .u64 y.fr) hy0 rfl
          have k5 := cell_of (j := 5) (v := .slice y.bo y.n y.cap) hy0 rfl
          have HGR := Lib.hid hgR
          clear hgc hgR hy0
          go_wp2_with fail
          clear q0 q1 q2 k0 k1 k2 k3 k4 k5 hW8
          refine (pm_act d lb sb D D _ y W8 H7.out.1.dev HS.out.ok HGR.out HS.out.ok rfl
            (fun w' hE' => HP.out.2.2.2.1.ext (H0.out.1.trans (H7.out.1.extD hE'))) HP.out.2.2.2.2.2.1).mono ?_
          rintro e w9 ⟨d4, lb4, sb4, v4, b4, rfl, hE9, hD9, hR9, hd4, hl4, hs4, hb4⟩
          obtain rfl : b4 = true := hb4 rfl
          have hR9' := hR9
          obtain ⟨sg4, sc4, tg4, tc4, wo4, wk4, rfl, _, _, _⟩ := hR9'
          have hok3 := actD_ok HS.out.ok y
          have hnn3 := (actD_n D y).trans HS.out.nn
          obtain ⟨D3, hD3⟩ : ∃ D3, actD D y = D3 := ⟨_, rfl⟩
          rw [hD3] at hD9 hR9 hok3 hnn3 ⊢
          obtain ⟨W10, hW10⟩ : ∃ W10, w9.alloc (.cells #[.slice (some ⟨sg4, 0, none⟩) D3.n sc4, .slice (some ⟨tg4, 0, none⟩) D3.n tc4, .slice wo4 D3.W.length wk4] 33) = W10 := ⟨_, rfl⟩
          have HC : Hid (CqSt w3 W10 d3 lb3 sb3 d4 lb4 sb4 w7.heap.size w9.heap.size g bw qo qc D D2 D3) := by
            have hn := HN.out
            obtain ⟨u1, u2, u3, u4, u5, u6, u7, u8⟩ := H7.out
            have hEE : Ext [] w9 W10 := by rw [← hW10]; exact (Ext.refl _ _).alloc _
            exact ⟨(u2.extO u1.dev hE9 (by simp; omega) (by simp; omega) (by simp; omega)).ext0 hEE, hD9.ext0 hEE, (u3.extD u1.dev hE9).ext0 hEE, ⟨sg4, sc4, tg4, tc4, wo4, wk4, by rw [← hW10]; exact World.alloc_heap_new _ _, hR9.ext0 hEE⟩, (u1.want.extD u1.dev hE9).ext0 hEE, (u4.extD u1.dev hE9 (by simp; omega)).ext0 hEE, (u1.extD hE9).trans hEE, hEE.at (hE9.at u1.res (by simp; omega)) (by simp)⟩
          have HOK := Lib.hid (And.intro H7.out.2.2.2.2.1 (And.intro hok3 hnn3))
          clear hE9 hD9 hR9 hd4 hl4 hs4 hok3 hnn3 hD3 hb4 H7 HGR
          obtain ⟨a0, a1, a2, a3, a4, a5, hb15, hR15⟩ := HC.out.h15
          obtain ⟨c0, c1, c2, c3, c4, c5, hb17, hR17⟩ := HC.out.h17
          obtain ⟨q0, q1, q2⟩ := three hb15
          obtain ⟨q3, q4, q5⟩ := three hb17
          have HRR := Lib.hid (And.intro hR15 hR17)
          clear hb15 hb17 hR15 hR17
          go_wp2_with fail
          clear hW10
          refine (rf_Same _ _ D2 D3 W10 HRR.out.1 HRR.out.2 HOK.out.1.1 (HOK.out.1.2.trans HOK.out.2.2.symm)).mono ?_
          rintro e w11 ⟨rfl, hE11⟩
          have hcm := eqB_comm D3 D2
          have HSM : Hid (∀ W, CqSt w3 W d3 lb3 sb3 d4 lb4 sb4 w7.heap.size w9.heap.size g bw qo qc D D2 D3 → Calls Try.prog 26 #[.pointer (some ⟨d3, 0, none⟩), .pointer (some ⟨d4, 0, none⟩)] W (fun e w' => e = .returned (.bool (D2.eqB D3)) ∧ Ext [] W w') ∧
              Calls Try.prog 26 #[.pointer (some ⟨d4, 0, none⟩), .pointer (some ⟨d3, 0, none⟩)] W (fun e w' => e = .returned (.bool (D2.eqB D3)) ∧ Ext [] W w')) := by
            intro W hC
            refine ⟨pm_Same d3 lb3 sb3 d4 lb4 sb4 D2 D3 W hC.p3 hC.p4 HOK.out.1.1 (HOK.out.1.2.trans HOK.out.2.2.symm), ?_⟩
            rw [← hcm]
            exact pm_Same d4 lb4 sb4 d3 lb3 sb3 D3 D2 W hC.p4 hC.p3 HOK.out.2.1 (HOK.out.2.2.trans HOK.out.1.2.symm)
          clear hcm
          generalize D2.eqB D3 = rs at *
          have hsb : (rs != rs) = false := by simp
          have C11 := Lib.hid (HC.out.ext1 hE11)
          have R11 := Lib.hid (And.intro (HRR.out.1.ext0 hE11) (HRR.out.2.ext0 hE11))
          have q0 := hE11.cell q0 (by simp)
          have q1 := hE11.cell q1 (by simp)
          have q2 := hE11.cell q2 (by simp)
          have q3 := hE11.cell q3 (by simp)
          have q4 := hE11.cell q4 (by simp)
          have q5 := hE11.cell q5 (by simp)
          clear hE11 HRR
          go_wp2_with (go_at_call 19; refine (pm_num _ _).mono ?_; rintro e w' ⟨rfl, rfl⟩)
          refine (pm_is2 d3 lb3 sb3 D2 _ w11 C11.out.p3 HOK.out.1.1 R11.out.1).mono ?_
          rintro e w12 ⟨rfl, hE12⟩
          have q3 := hE12.cell q3 (by simp)
          have q4 := hE12.cell q4 (by simp)
          have q5 := hE12.cell q5 (by simp)
          have C12 := Lib.hid (And.intro (C11.out.ext1 hE12) (R11.out.2.ext0 hE12))
          clear hE12 q0 q1 q2
          go_wp2_with fail
          refine (pm_is2 d4 lb4 sb4 D3 _ w12 C12.out.1.p4 HOK.out.2.1 C12.out.2).mono ?_
          rintro e w13 ⟨rfl, hE13⟩
          have C13 := Lib.hid (C12.out.1.ext1 hE13)
          clear hE13 q3 q4 q5
          go_wp2_with fail
          refine (HSM.out _ C13.out).1.mono ?_
          rintro e w14 ⟨rfl, hE14⟩
          have C14 := Lib.hid (C13.out.ext1 hE14)
          clear hE14
          go_wp2_with fail
          refine (HSM.out _ C14.out).2.mono ?_
          rintro e w15 ⟨rfl, hE15⟩
          have C15 := Lib.hid (C14.out.ext1 hE15)
          clear hE15
          go_wp2
          obtain ⟨W17, hW17⟩ : ∃ W17, w15.alloc (.cells #[.int .i64 0] 3) = W17 := ⟨_, rfl⟩
          rw [hW17]
          have hE17 : Ext [] w15 W17 := by rw [← hW17]; exact (Ext.refl _ _).alloc _
          have C17 := Lib.hid (C15.out.ext1 hE17)
          obtain ⟨nb, hnb⟩ : ∃ nb, w15.heap.size = nb := ⟨_, rfl⟩
          rw [hnb]
          have HB21 : Hid (W17.heap[nb]? = some (.cells #[.int .i64 0] 3 (0, 0))) := by unfold Hid; rw [← hW17, ← hnb]; exact World.alloc_heap_new _ _
          obtain ⟨sg, sc, tg, tc, wo, wk, hbg, hRg⟩ := C17.out.want.open
          have HNB : Hid (W17.heap.size = nb + 1 ∧ g < nb ∧ bw < nb ∧ w3.heap.size < nb ∧ w3.heap.size = w.heap.size + 3) :=
            ⟨by rw [← hW17, ← hnb]; simp, by have := C15.out.want.lt; omega, by have := C15.out.waits.lt; omega, by have := lt_of_block C15.out.res; omega, H0.out.2.2.2⟩
          obtain ⟨m, hm⟩ : ∃ m, D.W.length = m := ⟨_, rfl⟩
          have HM : Hid (D.W.length = m ∧ m ≤ 1024) := ⟨hm, by have := HS.out.ok.len; have := HS.out.ok.n1; omega⟩
          have HG : Hid (∀ W, Ext [nb] W17 W → W.heap[g]? = some (.cells #[.slice (some ⟨sg, 0, none⟩) D.n sc, .slice (some ⟨tg, 0, none⟩) D.n tc, .slice wo m wk] 33 (0, 0)) ∧ WtR W (.slice wo m wk) D.W) := fun W hE => by
            rw [hm] at hbg hRg
            refine ⟨hE.at hbg (by have := HNB.out; simp; omega), hRg.ext hE (fun g cur hg hm => ?_)⟩
            simp at hm
            subst hm
            rw [HB21.out] at hg
            simp at hg
          have HKB : Hid (∀ W, Ext [nb] W17 W → WKB bw (.slice qo D.W.length qc) D.W W) := fun W hE => by
            have hk := C17.out.waits
            refine ⟨hE.cell hk.1 (by have := HNB.out; simp; omega), hk.2.ext hE (fun g cur hg hm => ?_)⟩
            simp at hm
            subst hm
            rw [HB21.out] at hg
            simp at hg
          clear hm hbg hRg hE17 hW17 hnb hsb
          refine wpIn_wide.1 (wp_range (gf := 81) (lb := #[.pointer (some ⟨bw, 0, none⟩)]) rfl (fun args w => enters_of Try.func81 (by kernel_rfl) rfl args w)
            (waits_seq bw qo qc D.W (by have := HM.out; omega)) (fun pre x h => by obtain ⟨k, _, _, rfl⟩ := okT_last h; rfl) [nb]
            (CntGo W17 nb 3 many) (CntEnd W17 nb 3 m 2 many) ?_ ?_ ?_ ?_ ?_ ?_ ?_ ?_)
          · exact CntGo.steady (Nat.le_refl _)
          · exact CntEnd.steady (Nat.le_refl _)
          · rintro mm pre W ⟨_, hE, _⟩
            exact HKB.out _ hE
          · intro j hj
            have hn := HNB.out
            simp at hj
            omega
          · exact CntGo.start HB21.out
          · rintro l mm pre x W hl hgo hok
            have HGO := Lib.hid hgo
            obtain ⟨rfl, hE, hnb, _⟩ := hgo
            obtain ⟨q, hq, hpre, rfl⟩ := okT_last hok
            have hpl : pre.length = q := by rw [hpre, encT_len _ _ (by have := HM.out; omega)]
            rw [hpl] at hnb
            obtain ⟨hbx, hwt⟩ := HG.out _ hE
            obtain ⟨gw, rfl, x0, _⟩ := WtR.nine hwt hq
            obtain ⟨kk, hkk⟩ : ∃ kk, (D.W.getD q wtD).1 = kk := ⟨_, rfl⟩
            rw [hkk] at x0 ⊢
            have hqm : q < m := by have := HM.out.1; omega
            have k5 := cell_of (j := 2) (v := .slice (some ⟨gw, 0, none⟩) m wk) hbx rfl
            have k7 := hE.cell (cell_of (j := 0) (v := .int .i64 many) (HB.out W17 C17.out.ext).2.2 rfl) (by have := HNB.out; simp; omega)
            have HE := Lib.hid (And.intro hE (And.intro hnb hpl))
            clear hE hnb hok hpre hbx hwt hkk hq hpl
            intro K hK
            gi_wp2
            refine hK _ W (Ext.refl [] _) ?_
            intro W' hC
            clear hK K
            have bn := hC.block _ _ HE.out.2.1 (.inr rfl)
            have r5 := (Steady.cell (N := W17.heap.size)) W W' k5 hC
            have r6 := (Steady.cell (N := W17.heap.size)) W W' x0 hC
            have r7 := (Steady.cell (N := W17.heap.size)) W W' k7 hC
            have k6 := cell_of (j := 0) (v := .int .i64 q) bn rfl
            have f6 := free_of bn 0
            have hn := HNB.out
            have hmm := HM.out.2
            have HG' := Lib.hid (CntGo.steady (Nat.le_refl _) _ _ _ _ HGO.out hC)
            have hge : ¬ ((m : Int) ≤ (q : Int)) := by omega
            have hi0 : (0 : Int) ≤ (q : Int) := by omega
            have hi1 : (q : Int) < (m : Int) := by omega
            have hne : ((kk : Int) != (kk : Int)) = false := by simp
            have hw : wrap64 ((q : Int) + 1) = (q : Int) + 1 := IntWalk.wrap64_in _ (by omega)
            have hn1 : ¬ (w.heap.size + 1 + 1 = nb) := by omega
            have hn2 : ¬ (g = nb) := by omega
            have HQ := Lib.hid hqm
            clear bn hC k5 x0 k7 hl hn hmm hqm
            by_cases hend : many ≤ (q : Int) + 1
            · gi_wp2
              exact ⟨(Ext.refl _ W').setCell (.inl (by simp)) _, CntGo.stop HG'.out HE.out.2.2 hend HQ.out⟩
            · gi_wp2
              exact ⟨(Ext.refl _ W').setCell (.inl (by simp)) _, CntGo.step HG'.out HE.out.2.2 (by omega)⟩
          all_goals
            first
              | (rintro Dm mm xs W hD hx hgo hdD
                 have HV := Lib.hid (hgo.done (m := m) (by rw [show xs = encT D.W D.W.length from hx, encT_len _ _ (Nat.le_refl _), HM.out.1]))
                 clear hx hgo)
              | (rintro Dm cc W hD hce hdD
                 obtain ⟨rfl, hcd⟩ := hce.done
                 have HV := Lib.hid hcd
                 clear hce hcd
                 refine wpIn_exit ?_)
            obtain ⟨v, hE, hnb, hv⟩ := HV.out
            have hn := HNB.out
            obtain ⟨hbx, _⟩ := HG.out _ hE
            have k6 := cell_of (j := 0) (v := .int .i64 v) hnb rfl
            have k5 := cell_of (j := 2) (v := .slice wo m wk) hbx rfl
            have k7 := hE.cell (cell_of (j := 0) (v := .int .i64 many) (HB.out W17 C17.out.ext).2.2 rfl) (by simp; omega)
            have hres := hE.at C17.out.res (by simp; omega)
            have hEw : Ext [] w W := (H0.out.1.trans C17.out.ext).trans' hE (fun q hq => .inr (by simp at hq; omega))
            have hvb : ((v : Int) == min (m : Int) (max 1 many)) = true := by simpa using hv
            have HZ := Lib.hid (And.intro hres (And.intro hEw (And.intro hdD hD)))
            clear hE hnb hv hn hres hEw hdD hD HV hbx
            go_wp2_with fail
            refine (HW.out _).mono ?_
            rintro e w18 ⟨rfl, hE18⟩
            have hb18 := hE18.at HZ.out.1 (by simp)
            rw [H0.out.2.2.2] at hb18
            have k18 := cell_of (j := 0) (v := .bool false) hb18 rfl
            have f18 := free_of hb18 0
            have H18 := Lib.hid (And.intro (HZ.out.2.1.trans hE18) (And.intro hb18 (hE18.at HZ.out.2.2.1 (by simp))))
            clear hE18 hb18
            go_wp2
            show LeavesInM _ _ _ _ _ _ _ _ _
            refine fin.out [Dm] w18 (.bool false) (fun D1 hD1 => ?_) (by simp) H18.out.2.1 H18.out.1 _ ?_
            · obtain rfl : D1 = Dm := by simpa using hD1
              exact ⟨H18.out.2.2, by have := HNB.out; have := HZ.out.2.2.2; omega⟩
            · rfl
end Go.Proofs.Ytfojmjkcjdehaaa
