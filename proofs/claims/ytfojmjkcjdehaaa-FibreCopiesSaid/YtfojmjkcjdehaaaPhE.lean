/- The document's device: Flush. The document's device: Fence. The document's device: Evict. The document's device: Crash. -/
import Derived.Test.YtfojmjkcjdehaaaPhA
namespace Go.Proofs.Ytfojmjkcjdehaaa
open Go Go.RowKit Go.Shelf
attribute [local go_sem] Oper.semAt_some

theorem Dv.flush_no {D : Dv} {k : Int} (h : D.line k = false) : D.flush k = (D, 4) := by unfold Dv.flush; rw [h]; rfl
theorem Dv.evict_no {D : Dv} {k : Int} (h : D.line k = false) : D.evict k = (D, 4) := by unfold Dv.evict; rw [h]; rfl
theorem DvOk.wl {D : Dv} (h : DvOk D) : D.W.length ≤ 1024 := Nat.le_trans h.len h.n1
theorem wout_len (W : List Wt) (k : Int) : (wout W k).length ≤ W.length := by
  have := wout_le W k W.length
  rwa [List.take_length] at this

set_option maxRecDepth 100000 in
set_option maxHeartbeats 2000000 in
theorem rf_Flush (v : Value) (D : Dv) (k : Int) (w : World) (h : RefAt w v D) (hn : DvOk D) :
    Calls Try.prog 54 #[v, .int .i64 k] w fun e w' => ∃ v', e = .returned (.tuple #[v', .int .i64 (D.flush k).2]) ∧ Ext [] w w' ∧ RefAt w' v' (D.flush k).1 := by
  have HR := Lib.hid h
  obtain ⟨sg, sc, tg, tc, wo, wc, rfl, hS, hT, hW⟩ := h
  obtain ⟨W0, hw0⟩ : ∃ W0, (w.alloc (.cells #[.slice (some ⟨sg, 0, none⟩) D.n sc, .slice (some ⟨tg, 0, none⟩) D.n tc, .slice wo D.W.length wc] 33)).alloc (.cells #[.slice none 0 0, .slice none 0 0, .slice none 0 0] 33) = W0 := ⟨_, rfl⟩
  have hE0 : Ext [] w W0 := by rw [← hw0]; exact ((Ext.refl [] w).alloc _).alloc _
  obtain ⟨hb3, hb6, hs0⟩ := al2_heap (w := w) #[.slice (some ⟨sg, 0, none⟩) D.n sc, .slice (some ⟨tg, 0, none⟩) D.n tc, .slice wo D.W.length wc] #[.slice none 0 0, .slice none 0 0, .slice none 0 0] 33 33
  rw [hw0] at hb3 hb6 hs0
  obtain ⟨k0, k1, k2⟩ := three hb3
  have HT := Lib.hid (rf_Line (some ⟨sg, 0, none⟩) (some ⟨tg, 0, none⟩) wo D.n sc D.n tc D.W.length wc k W0)
  rw [Dv.line_eq] at HT
  have H0 := Lib.hid (And.intro hE0 (And.intro hb6 (And.intro hb3 (And.intro hs0 (And.intro hS (And.intro hT (And.intro hW hn)))))))
  clear hE0 hb6 hb3 hs0 hS hT hW
  cases hh : D.line k with
  | false =>
    rw [Dv.flush_no hh]
    rw [hh] at HT
    clear hh
    go_enter Try.func54, Try.ntmps54
    go_wp2_with fail
    refine HT.out.mono ?_
    rintro e w1 ⟨rfl, hE1⟩
    obtain ⟨k0, k1, k2⟩ := three (hE1.at H0.out.2.2.1 (by simp))
    have hb6 := hE1.at H0.out.2.1 (by simp)
    obtain ⟨m0, m1, m2⟩ := three hb6
    have f0 := free_of hb6 0
    have f1 := free_of hb6 1
    have f2 := free_of hb6 2
    have H1 := Lib.hid (And.intro (H0.out.1.trans hE1) hb6)
    clear hE1 hw0 hb6
    go_wp2
    have hE2 := ext_three H1.out.1 (g := w.heap.size + 1) (.inr (by omega)) (.slice (some ⟨sg, 0, none⟩) D.n sc) (.slice (some ⟨tg, 0, none⟩) D.n tc) (.slice wo D.W.length wc)
    refine bodyPost_ret (results_ca Try.results54 _ _ (w.heap.size + 1) _ #[.slice (some ⟨sg, 0, none⟩) D.n sc, .slice (some ⟨tg, 0, none⟩) D.n tc, .slice wo D.W.length wc] _ _ _ rfl (tri_set H1.out.2 _ _ _) rfl Try.underlying33 rfl (by kernel_rfl)) rfl ?_
    exact ⟨_, rfl, hE2, HR.out.ext0 hE2⟩
  | true =>
    rw [hh] at HT
    obtain ⟨a, rfl, ha⟩ := Dv.line_in hh
    have hr : D.flush (a : Int) = ({ D with W := wout D.W (a : Int) ++ [(a, lineOf D.L a)] }, 0) := by unfold Dv.flush; rw [hh, if_pos rfl]; simp
    rw [hr]
    obtain ⟨i0, hi, hz0, hz1, hz2⟩ := info_parts infoWt
    have hI1 := Lib.hid hi
    have hI2 := Lib.hid hz0
    have hI3 := Lib.hid hz1
    have hI4 := Lib.hid hz2
    have hi0 : (0 : Int) ≤ (a : Int) := by omega
    have hi1 : (a : Int) < (D.n : Int) := by omega
    have HA := Lib.hid ha
    clear hi hz0 hz1 hz2 hh hr ha
    go_enter Try.func54, Try.ntmps54
    go_wp2_with fail
    refine HT.out.mono ?_
    rintro e w1 ⟨rfl, hE1⟩
    have HE := Lib.hid (And.intro (H0.out.1.trans hE1) (And.intro (hE1.at H0.out.2.2.1 (by simp)) (hE1.at H0.out.2.1 (by simp))))
    have hlt := lt_of_block HE.out.2.1
    obtain ⟨k0, k1, k2⟩ := three HE.out.2.1
    have fk2 := free_of HE.out.2.1 2
    obtain ⟨x0, x1, x2, x3, x4, x5, x6, x7⟩ := (H0.out.2.2.2.2.1.ext HE.out.1 (NoT.nil _ _)).eight HA.out
    have HW := Lib.hid (fun W (hE : Ext [] w1 W) => rf_without (some ⟨sg, 0, none⟩) (some ⟨tg, 0, none⟩) wo D.n sc D.n tc wc D.W (a : Int) W (H0.out.2.2.2.2.2.2.1.ext (HE.out.1.trans hE) (NoT.nil _ _)) hn.wl)
    have HL := Lib.hid (Nat.le_trans (wout_len D.W (a : Int)) hn.wl)
    have HS : Hid (∀ W, Ext [] w1 W → W.cell? ⟨w.heap.size, 0, none⟩ = some (.slice (some ⟨sg, 0, none⟩) D.n sc) ∧ W.cell? ⟨w.heap.size, 1, none⟩ = some (.slice (some ⟨tg, 0, none⟩) D.n tc) ∧
      W.cell? ⟨sg, a * 8, none⟩ = some (.int .u64 (D.L (8 * a))) ∧ W.cell? ⟨sg, a * 8 + 1, none⟩ = some (.int .u64 (D.L (8 * a + 1))) ∧ W.cell? ⟨sg, a * 8 + 2, none⟩ = some (.int .u64 (D.L (8 * a + 2))) ∧ W.cell? ⟨sg, a * 8 + 3, none⟩ = some (.int .u64 (D.L (8 * a + 3))) ∧
      W.cell? ⟨sg, a * 8 + 4, none⟩ = some (.int .u64 (D.L (8 * a + 4))) ∧ W.cell? ⟨sg, a * 8 + 5, none⟩ = some (.int .u64 (D.L (8 * a + 5))) ∧ W.cell? ⟨sg, a * 8 + 6, none⟩ = some (.int .u64 (D.L (8 * a + 6))) ∧ W.cell? ⟨sg, a * 8 + 7, none⟩ = some (.int .u64 (D.L (8 * a + 7)))) := by
      intro W hE
      exact ⟨hE.cell k0 (by simp), hE.cell k1 (by simp), hE.cell x0 (by simp), hE.cell x1 (by simp), hE.cell x2 (by simp), hE.cell x3 (by simp), hE.cell x4 (by simp), hE.cell x5 (by simp), hE.cell x6 (by simp), hE.cell x7 (by simp)⟩
    have hsgl : sg < w.heap.size := H0.out.2.2.2.2.1.lt
    have HSS : Hid (∀ W u, Ext [] w1 W → (W.setCell ⟨w.heap.size, 2, none⟩ u).cell? ⟨w.heap.size, 0, none⟩ = some (.slice (some ⟨sg, 0, none⟩) D.n sc) ∧ (W.setCell ⟨w.heap.size, 2, none⟩ u).cell? ⟨w.heap.size, 1, none⟩ = some (.slice (some ⟨tg, 0, none⟩) D.n tc) ∧
      (W.setCell ⟨w.heap.size, 2, none⟩ u).cell? ⟨sg, a * 8, none⟩ = some (.int .u64 (D.L (8 * a))) ∧ (W.setCell ⟨w.heap.size, 2, none⟩ u).cell? ⟨sg, a * 8 + 1, none⟩ = some (.int .u64 (D.L (8 * a + 1))) ∧ (W.setCell ⟨w.heap.size, 2, none⟩ u).cell? ⟨sg, a * 8 + 2, none⟩ = some (.int .u64 (D.L (8 * a + 2))) ∧ (W.setCell ⟨w.heap.size, 2, none⟩ u).cell? ⟨sg, a * 8 + 3, none⟩ = some (.int .u64 (D.L (8 * a + 3))) ∧
      (W.setCell ⟨w.heap.size, 2, none⟩ u).cell? ⟨sg, a * 8 + 4, none⟩ = some (.int .u64 (D.L (8 * a + 4))) ∧ (W.setCell ⟨w.heap.size, 2, none⟩ u).cell? ⟨sg, a * 8 + 5, none⟩ = some (.int .u64 (D.L (8 * a + 5))) ∧ (W.setCell ⟨w.heap.size, 2, none⟩ u).cell? ⟨sg, a * 8 + 6, none⟩ = some (.int .u64 (D.L (8 * a + 6))) ∧ (W.setCell ⟨w.heap.size, 2, none⟩ u).cell? ⟨sg, a * 8 + 7, none⟩ = some (.int .u64 (D.L (8 * a + 7)))) := by
      intro W u hE
      obtain ⟨g0, g1, g3, g4, g5, g6, g7, g8, g9, g10⟩ := HS.out W hE
      exact ⟨cell_setO g0 (by simp), cell_setO g1 (by simp), cell_setO g3 (by simp), cell_setO g4 (by simp), cell_setO g5 (by simp), cell_setO g6 (by simp), cell_setO g7 (by simp), cell_setO g8 (by simp), cell_setO g9 (by simp), cell_setO g10 (by simp)⟩
    clear hE1 hw0 hsgl
    go_upto_region 3 with fail
    go_cut [5] from 11 to 24 (fun s wx => s = .int .i64 0 ∧ ∃ v5, Ext [w.heap.size] w1 wx ∧ wx.heap[w.heap.size]? = some (.cells #[.slice (some ⟨sg, 0, none⟩) D.n sc, .slice (some ⟨tg, 0, none⟩) D.n tc, v5] 33 (0, 0)) ∧ wx.ownsRow w1.heap.size 70 9 v5 ((wout D.W (a : Int)).length + 1) (rowC (wR (wout D.W (a : Int))) (wout D.W (a : Int)).length ++ waitR (a, lineOf D.L a)))
    case first =>
      go_region_law ((first
          | (go_simp; go_at_call 104; refine (HW.out _ ?_).mono ?_
             · (first | exact (Ext.refl [] w1).drew | exact (Ext.refl [] w1).drew.alloc _ | exact ((Ext.refl [] w1).alloc _).drew)
             rintro e w2 ⟨v2, rfl, hE2, ho2⟩
             have hX1 : Ext [] w1 w2 := by first | exact (Ext.refl [] w1).drew.trans hE2 | exact ((Ext.refl [] w1).drew.alloc _).trans hE2 | exact ((Ext.refl [] w1).alloc _).drew.trans hE2
             have ho : w2.ownsRow w1.heap.size 70 9 v2 (wout D.W (a : Int)).length (rowC (wR (wout D.W (a : Int))) (wout D.W (a : Int)).length) := owns_base ho2 (by simp)
             obtain ⟨ao1, cap1, rfl⟩ := slice_of_owns ho
             have hO1 := Lib.hid ho
             have hB1 := Lib.hid hE2
             obtain ⟨y0, y1, y2, y3, y4, y5, y6, y7, y8, y9⟩ := HS.out _ hX1
             clear ho2 ho hE2
             go_wp2_with fail)
          | ((refine step_append_any (by rfl) (.tmp 13) (.tmp 21) 31 (by rfl) w1.heap.size 70 i0 (.agg #[.int .i64 0, .int .u64 0, .int .u64 0, .int .u64 0, .int .u64 0, .int .u64 0, .int .u64 0, .int .u64 0, .int .u64 0]) 9 72 Try.underlying31 hI1.out hI2.out hI3.out hI4.out rfl (by omega) (.slice ao1 (wout D.W (a : Int)).length cap1) (wout D.W (a : Int)).length (rowC (wR (wout D.W (a : Int))) (wout D.W (a : Int)).length) (by rfl) ?_ (some ⟨_, 0, none⟩) 1 1 (waitR (a, lineOf D.L a)) (by rfl) ?_ ?_ ?_ ?_ ?_)
             · (first | exact hO1.out | exact hO1.out.alloc _)
             · (refine .inr ⟨_, rfl, rfl, World.news_of_block (cs := (waitR (a, lineOf D.L a)).toArray) (t := 70) (fr := (0, 0)) ?_, (wR_ok [(a, lineOf D.L a)] 1).one 0 (by omega)⟩
                first | exact World.alloc_heap_new _ _ | exact hB1.out.at (World.alloc_heap_new _ _) (by simp))
             · (have := HL.out; unfold maxLen; omega)
             · (have := HL.out; omega)
             · (have := hX1.size; simp at this ⊢; omega)
             intro v5 w5 ho5 hE5 hXX5
             have hX5 : Ext [] w1 w5 := by
               refine hXX5 w1 ?_ (Nat.le_refl _)
               first | exact hX1 | exact hX1.alloc _
             obtain ⟨ao5, cap5, rfl⟩ := slice_of_owns ho5
             have hO5 := Lib.hid ho5
             have q2 := hX5.cell k2 (by simp)
             have g2 := hX5.frozen fk2 hlt (by simp)
             clear ho5 hE5 hXX5)
          | fail))
      all_goals
        have hO6 := owns_ext (m := [w.heap.size]) hO5.out ((Ext.refl [w.heap.size] w5).setCell (p := ⟨w.heap.size, 2, none⟩) (.inl (by simp)) (.slice ao5 ((wout D.W (a : Int)).length + 1) cap5)) (fun g hg => by have := (hO5.out.lt g hg).1; simp; omega)
        have hb6 := tri_set2 (hX5.at HE.out.2.1 (by simp)) (.slice ao5 ((wout D.W (a : Int)).length + 1) cap5)
        have hE6 : Ext [w.heap.size] w1 (w5.setCell ⟨w.heap.size, 2, none⟩ (.slice ao5 ((wout D.W (a : Int)).length + 1) cap5)) := hX5.wide.setCell (.inl (by simp)) _
        have HF := Lib.hid (And.intro hE6 (And.intro hb6 hO6))
        clear hE6 hb6 hO6
        go_wp2_with fail
        go_meet
        exact ⟨rfl, _, HF.out⟩
    case rest =>
      obtain ⟨rfl, v5, hEc, hbc, hOc⟩ := hcut
      obtain ⟨ao5, cap5, rfl⟩ := slice_of_owns hOc
      have hb6 := hEc.at HE.out.2.2 (by simp)
      have HC := Lib.hid (And.intro hEc (And.intro hbc (And.intro hOc hb6)))
      clear k0 k1 k2 fk2 x0 x1 x2 x3 x4 x5 x6 x7 hEc hOc hlt
      obtain ⟨k0, k1, k2⟩ := three hbc
      obtain ⟨m0, m1, m2⟩ := three hb6
      have f0 := free_of hb6 0
      have f1 := free_of hb6 1
      have f2 := free_of hb6 2
      clear hbc hb6
      go_wp2
      have hEw : Ext [] w wc := HE.out.1.trans' HC.out.1 (fun j hj => .inr (by simp at hj; omega))
      have hE7 := ext_three hEw (g := w.heap.size + 1) (.inr (by omega)) (.slice (some ⟨sg, 0, none⟩) D.n sc) (.slice (some ⟨tg, 0, none⟩) D.n tc) (.slice ao5 ((wout D.W (a : Int)).length + 1) cap5)
      have hE67 := ext_three (Ext.refl [w.heap.size + 1] wc) (g := w.heap.size + 1) (.inl (by simp)) (.slice (some ⟨sg, 0, none⟩) D.n sc) (.slice (some ⟨tg, 0, none⟩) D.n tc) (.slice ao5 ((wout D.W (a : Int)).length + 1) cap5)
      refine bodyPost_ret (results_ca Try.results54 _ _ (w.heap.size + 1) _ #[.slice (some ⟨sg, 0, none⟩) D.n sc, .slice (some ⟨tg, 0, none⟩) D.n tc, .slice ao5 ((wout D.W (a : Int)).length + 1) cap5] _ _ _ rfl (tri_set HC.out.2.2.2 _ _ _) rfl Try.underlying33 rfl (by kernel_rfl)) rfl ?_
      refine ⟨_, rfl, hE7, sg, sc, tg, tc, ao5, cap5, ?_, H0.out.2.2.2.2.1.ext hE7 (NoT.nil _ _), H0.out.2.2.2.2.2.1.ext hE7 (NoT.nil _ _), ?_⟩
      · show _ = Value.agg #[_, _, .slice ao5 (wout D.W (a : Int) ++ [(a, lineOf D.L a)]).length cap5]
        rw [List.length_append]
        rfl
      · have h2 := owns_base (base' := 0) HC.out.2.2.1 (Nat.zero_le _)
        rw [← rowC_snoc] at h2
        have h3 := owns_ext (m := [w.heap.size + 1]) h2 hE67 (fun g hg => by have := (HC.out.2.2.1.lt g hg).1; have := HE.out.1.size; have := lt_of_block HE.out.2.2; simp; omega)
        show World.ownsRow _ _ _ _ (.slice ao5 (wout D.W (a : Int) ++ [(a, lineOf D.L a)]).length cap5) (wout D.W (a : Int) ++ [(a, lineOf D.L a)]).length (rowC _ (wout D.W (a : Int) ++ [(a, lineOf D.L a)]).length)
        rw [List.length_append]
        exact h3
end Go.Proofs.Ytfojmjkcjdehaaa
namespace Go.Proofs.Ytfojmjkcjdehaaa
open Go Go.RowKit Go.Shelf
attribute [local go_sem] Oper.semAt_some

theorem WtR.heap {w : World} {g n cap : Nat} {W : List Wt} (h : WtR w (.slice (some ⟨g, 0, none⟩) n cap) W) : ∃ cur, w.heap[g]? = some (.cells cur 70 (0, 0)) := by
  rcases h.2 with ⟨h1, _⟩ | ⟨g', cap', cur, h1, _, h3, _⟩
  · cases h1
  · cases h1; exact ⟨cur, h3⟩
/-- the loop of Fence and of Crash: lines that wait stay, so many of them -/
def StlAt (sg sc tc wc n : Nat) (wo : Option Addr) (b : Nat) (sel : Nat → Bool) (W : List Wt) (S : Wd) (W0 : World) (j : Nat) (wr : World) : Prop :=
  ∃ g cap, Ext [b] W0 wr ∧ wr.heap[b]? = some (.cells #[.slice (some ⟨sg, 0, none⟩) n sc, .slice (some ⟨g, 0, none⟩) n cap, .slice wo W.length wc] 33 (0, 0)) ∧ LnB wr g cap n (stl sel 0 (W.take j) S) ∧ tc = tc

set_option maxRecDepth 100000 in
set_option maxHeartbeats 2000000 in
theorem rf_Fence (v : Value) (D : Dv) (w : World) (h : RefAt w v D) (hn : DvOk D) :
    Calls Try.prog 55 #[v] w fun e w' => ∃ v', e = .returned v' ∧ Ext [] w w' ∧ RefAt w' v' D.fence := by
  obtain ⟨sg, sc, tg, tc, wo, wc, rfl, hS, hT, hW⟩ := h
  obtain ⟨W0, hw0⟩ : ∃ W0, (w.alloc (.cells #[.slice (some ⟨sg, 0, none⟩) D.n sc, .slice (some ⟨tg, 0, none⟩) D.n tc, .slice wo D.W.length wc] 33)).alloc (.cells #[.slice none 0 0, .slice none 0 0, .slice none 0 0] 33) = W0 := ⟨_, rfl⟩
  have hE0 : Ext [] w W0 := by rw [← hw0]; exact ((Ext.refl [] w).alloc _).alloc _
  obtain ⟨hb3, hb6, hs0⟩ := al2_heap (w := w) #[.slice (some ⟨sg, 0, none⟩) D.n sc, .slice (some ⟨tg, 0, none⟩) D.n tc, .slice wo D.W.length wc] #[.slice none 0 0, .slice none 0 0, .slice none 0 0] 33 33
  rw [hw0] at hb3 hb6 hs0
  have hnT : NoT W0 68 [w.heap.size] := fun g cur hg hm => by simp at hm; subst hm; rw [hb3] at hg; simp at hg
  have hnW : NoT W0 70 [w.heap.size] := fun g cur hg hm => by simp at hm; subst hm; rw [hb3] at hg; simp at hg
  have H0 := Lib.hid (And.intro hE0 (And.intro hb6 (And.intro hb3 (And.intro hs0 (And.intro (hS.ext hE0 (NoT.nil _ _)) (And.intro (hT.ext hE0 (NoT.nil _ _)) (And.intro (hW.ext hE0 (NoT.nil _ _)) (And.intro hnT hnW))))))))
  have HD := Lib.hid hn
  obtain ⟨m, hm⟩ : ∃ m, D.W.length = m := ⟨_, rfl⟩
  have HM := Lib.hid hm
  rw [hm] at hw0 ⊢
  clear hE0 hb6 hb3 hs0 hS hT hW hm hn hnT hnW
  go_enter Try.func55, Try.ntmps55
  go_wp2
  go_loopg [3] m (fun cnt i wr => ∃ j : Nat, i = .int .i64 j ∧ j + cnt = m ∧ StlAt sg sc tc wc D.n wo w.heap.size (fun _ => true) D.W D.S W0 j wr)
  case atStart => exact ⟨0, rfl, by omega, tg, tc, Ext.refl _ _, H0.out.2.2.1, H0.out.2.2.2.2.2.1, rfl⟩
  case round =>
    obtain ⟨j, rfl, hj, g, cap, hE, hb, hL, _⟩ := hrel
    rw [HM.out] at hb
    have hlt0 := lt_of_block hb
    have hjm : (j : Int) ≤ 1024 := by have := HM.out; have := HD.out.wl; omega
    by_cases hlt : j < m
    · obtain ⟨gw, rfl, x0, x1, x2, x3, x4, x5, x6, x7, x8⟩ := (H0.out.2.2.2.2.2.2.1.ext hE H0.out.2.2.2.2.2.2.2.2).nine (i := j) (by rw [HM.out]; exact hlt)
      obtain ⟨p, hp⟩ : ∃ p, D.W.getD j wtD = p := ⟨_, rfl⟩
      rw [hp] at x0 x1 x2 x3 x4 x5 x6 x7 x8
      have hpn : p.1 < D.n := by rw [← hp]; exact HD.out.lt _ (getD_mem (by rw [HM.out]; exact hlt))
      have hst := stl_step (fun _ => true) D.W D.S j (by rw [HM.out]; exact hlt)
      rw [hp, if_pos rfl] at hst
      obtain ⟨k0, k1, k2⟩ := three hb
      have fk1 := free_of hb 1
      have hi0 : (0 : Int) ≤ (j : Int) := by omega
      have hi1 : (j : Int) < (m : Int) := by omega
      have HWT := Lib.hid (fun W (hE : Ext [] wr W) => rf_with g cap D.n p.1 (stl (fun _ => true) 0 (D.W.take j) D.S) p.2 W (hL.ext hE (NoT.nil _ _)) hpn HD.out.n1)
      have HJ := Lib.hid (And.intro hj (And.intro hlt (And.intro hE (And.intro hb hst))))
      clear hj hE hb hst hpn hp hL
      go_wp2
      go_still_tail 14, (by kernel_rfl)
      change wpList _ _ _ _ _ wr.drew
      go_wp2_with fail
      refine (HWT.out _ (Ext.refl [] wr).drew).mono ?_
      rintro e w2 ⟨g2, cap2, rfl, hE2, hL2⟩
      have hX1 : Ext [] wr w2 := (Ext.refl [] wr).drew.trans hE2
      have HL2 := Lib.hid hL2
      have q1 := hX1.cell k1 (by simp)
      have z1 := hX1.frozen fk1 hlt0 (by simp)
      clear hL2 hE2 x0 x1 x2 x3 x4 x5 x6 x7 x8
      go_wp2
      go_roundg (m - (j + 1))
      case measure => have := HJ.out.1; omega
      case rel =>
        have hb2 := tri_set1 (hX1.at HJ.out.2.2.2.1 (by simp)) (.slice (some ⟨g2, 0, none⟩) D.n cap2)
        have hE2 : Ext [w.heap.size] w2 (w2.setCell ⟨w.heap.size, 1, none⟩ (.slice (some ⟨g2, 0, none⟩) D.n cap2)) := (Ext.refl [w.heap.size] w2).setCell (.inl (by simp)) _
        refine ⟨j + 1, by go_num, by have := HJ.out; omega, g2, cap2, (HJ.out.2.2.1.then hX1).trans hE2, ?_, ?_, rfl⟩
        · rw [HM.out]; exact hb2
        · rw [HJ.out.2.2.2.2]
          refine HL2.out.ext hE2 (fun g3 cur hg hm => ?_)
          simp at hm
          subst hm
          rw [hX1.at HJ.out.2.2.2.1 (by simp)] at hg
          simp at hg
    · have hd : decide (j < m) = false := by simpa using hlt
      obtain rfl : j = m := by omega
      have HJ := Lib.hid (And.intro hE (And.intro hb hL))
      obtain ⟨k0, k1, k2⟩ := three hb
      have fk2 := free_of hb 2
      clear hj hE hb hL hlt
      obtain ⟨W2, hW2⟩ : ∃ W2, wr.setCell ⟨w.heap.size, 2, none⟩ (.slice none 0 0) = W2 := ⟨_, rfl⟩
      have hE2 : Ext [w.heap.size] wr W2 := by rw [← hW2]; exact (Ext.refl [w.heap.size] wr).setCell (.inl (by simp)) _
      have hb2 : W2.heap[w.heap.size]? = some (.cells #[.slice (some ⟨sg, 0, none⟩) D.n sc, .slice (some ⟨g, 0, none⟩) D.n cap, .slice none 0 0] 33 (0, 0)) := by
        rw [← hW2]; exact tri_set2 HJ.out.2.1 _
      have hb6 := hE2.at (HJ.out.1.at H0.out.2.1 (by simp)) (by simp)
      obtain ⟨m0, m1, m2⟩ := three hb6
      have f0 := free_of hb6 0
      have f1 := free_of hb6 1
      have f2 := free_of hb6 2
      have H2 := Lib.hid (And.intro hE2 (And.intro hb2 hb6))
      clear hE2 hb2 hb6
      go_upto_region 6 with fail
      try rw [hW2]
      clear hW2 k0 k1 k2 fk2
      obtain ⟨k0, k1, k2⟩ := three H2.out.2.1
      go_wp2
      have hEw : Ext [] w W2 := H0.out.1.trans' (HJ.out.1.trans H2.out.1) (fun j hj => .inr (by simp at hj; omega))
      have hE7 := ext_three hEw (g := w.heap.size + 1) (.inr (by omega)) (.slice (some ⟨sg, 0, none⟩) D.n sc) (.slice (some ⟨g, 0, none⟩) D.n cap) (.slice none 0 0)
      have hE27 := ext_three (Ext.refl [w.heap.size + 1] W2) (g := w.heap.size + 1) (.inl (by simp)) (.slice (some ⟨sg, 0, none⟩) D.n sc) (.slice (some ⟨g, 0, none⟩) D.n cap) (.slice none 0 0)
      have hN1 : NoT wr 68 [w.heap.size] := fun g cur hg hm => by simp at hm; subst hm; rw [HJ.out.2.1] at hg; simp at hg
      have hN2 : NoT W2 68 [w.heap.size + 1] := fun g cur hg hm => by simp at hm; subst hm; rw [H2.out.2.2] at hg; simp at hg
      refine bodyPost_ret (results_agg Try.results55 _ _ (w.heap.size + 1) _ #[.slice (some ⟨sg, 0, none⟩) D.n sc, .slice (some ⟨g, 0, none⟩) D.n cap, .slice none 0 0] _ _ rfl (tri_set H2.out.2.2 _ _ _) Try.underlying33 rfl (by kernel_rfl)) rfl ?_
      refine ⟨_, rfl, hE7, sg, sc, g, cap, none, 0, rfl, ?_, ?_, World.ownsRow_nil _ _ _ _⟩
      · exact ((H0.out.2.2.2.2.1.ext HJ.out.1 H0.out.2.2.2.2.2.2.2.1).ext H2.out.1 hN1).ext hE27 hN2
      · have h := HJ.out.2.2
        rw [← HM.out, List.take_length] at h
        exact (h.ext H2.out.1 hN1).ext hE27 hN2
end Go.Proofs.Ytfojmjkcjdehaaa
namespace Go.Proofs.Ytfojmjkcjdehaaa
open Go Go.RowKit Go.Shelf
attribute [local go_sem] Oper.semAt_some

set_option maxRecDepth 100000 in
set_option maxHeartbeats 2000000 in
theorem rf_Evict (v : Value) (D : Dv) (k : Int) (w : World) (h : RefAt w v D) (hn : DvOk D) :
    Calls Try.prog 56 #[v, .int .i64 k] w fun e w' => ∃ v', e = .returned (.tuple #[v', .int .i64 (D.evict k).2]) ∧ Ext [] w w' ∧ RefAt w' v' (D.evict k).1 := by
  have HR := Lib.hid h
  obtain ⟨sg, sc, tg, tc, wo, wc, rfl, hS, hT, hW⟩ := h
  obtain ⟨W0, hw0⟩ : ∃ W0, (w.alloc (.cells #[.slice (some ⟨sg, 0, none⟩) D.n sc, .slice (some ⟨tg, 0, none⟩) D.n tc, .slice wo D.W.length wc] 33)).alloc (.cells #[.slice none 0 0, .slice none 0 0, .slice none 0 0] 33) = W0 := ⟨_, rfl⟩
  have hE0 : Ext [] w W0 := by rw [← hw0]; exact ((Ext.refl [] w).alloc _).alloc _
  obtain ⟨hb3, hb6, hs0⟩ := al2_heap (w := w) #[.slice (some ⟨sg, 0, none⟩) D.n sc, .slice (some ⟨tg, 0, none⟩) D.n tc, .slice wo D.W.length wc] #[.slice none 0 0, .slice none 0 0, .slice none 0 0] 33 33
  rw [hw0] at hb3 hb6 hs0
  obtain ⟨k0, k1, k2⟩ := three hb3
  have HT := Lib.hid (rf_Line (some ⟨sg, 0, none⟩) (some ⟨tg, 0, none⟩) wo D.n sc D.n tc D.W.length wc k W0)
  rw [Dv.line_eq] at HT
  have H0 := Lib.hid (And.intro hE0 (And.intro hb6 (And.intro hb3 (And.intro hs0 (And.intro hS (And.intro hT (And.intro hW hn)))))))
  clear hE0 hb6 hb3 hs0 hS hT hW
  cases hh : D.line k with
  | false =>
    rw [Dv.evict_no hh]
    rw [hh] at HT
    clear hh
    go_enter Try.func56, Try.ntmps56
    go_wp2_with fail
    refine HT.out.mono ?_
    rintro e w1 ⟨rfl, hE1⟩
    obtain ⟨k0, k1, k2⟩ := three (hE1.at H0.out.2.2.1 (by simp))
    have hb6 := hE1.at H0.out.2.1 (by simp)
    obtain ⟨m0, m1, m2⟩ := three hb6
    have f0 := free_of hb6 0
    have f1 := free_of hb6 1
    have f2 := free_of hb6 2
    have H1 := Lib.hid (And.intro (H0.out.1.trans hE1) hb6)
    clear hE1 hw0 hb6
    go_wp2
    have hE2 := ext_three H1.out.1 (g := w.heap.size + 1) (.inr (by omega)) (.slice (some ⟨sg, 0, none⟩) D.n sc) (.slice (some ⟨tg, 0, none⟩) D.n tc) (.slice wo D.W.length wc)
    refine bodyPost_ret (results_ca Try.results56 _ _ (w.heap.size + 1) _ #[.slice (some ⟨sg, 0, none⟩) D.n sc, .slice (some ⟨tg, 0, none⟩) D.n tc, .slice wo D.W.length wc] _ _ _ rfl (tri_set H1.out.2 _ _ _) rfl Try.underlying33 rfl (by kernel_rfl)) rfl ?_
    exact ⟨_, rfl, hE2, HR.out.ext0 hE2⟩
  | true =>
    rw [hh] at HT
    obtain ⟨a, rfl, ha⟩ := Dv.line_in hh
    have hr : D.evict (a : Int) = ({ D with S := setLn D.S a (lineOf D.L a), W := wout D.W (a : Int) }, 0) := by unfold Dv.evict; rw [hh, if_pos rfl]; simp
    rw [hr]
    have hi0 : (0 : Int) ≤ (a : Int) := by omega
    have hi1 : (a : Int) < (D.n : Int) := by omega
    have HA := Lib.hid ha
    clear hh hr ha
    go_enter Try.func56, Try.ntmps56
    go_wp2_with fail
    refine HT.out.mono ?_
    rintro e w1 ⟨rfl, hE1⟩
    obtain ⟨k0, k1, k2⟩ := three (hE1.at H0.out.2.2.1 (by simp))
    have H1 := Lib.hid (And.intro (H0.out.1.trans hE1) (And.intro (hE1.at H0.out.2.2.1 (by simp)) (hE1.at H0.out.2.1 (by simp))))
    clear hE1 hw0
    go_wp2_with fail
    refine (rf_without (some ⟨sg, 0, none⟩) (some ⟨tg, 0, none⟩) wo D.n sc D.n tc wc D.W (a : Int) w1 (H0.out.2.2.2.2.2.2.1.ext H1.out.1 (NoT.nil _ _)) hn.wl).mono ?_
    rintro e w2 ⟨v2, rfl, hE2, hO2⟩
    obtain ⟨ao2, cap2, rfl⟩ := slice_of_owns hO2
    have hb2 := hE2.at H1.out.2.1 (by simp)
    have k2' := cell_of (j := 2) (v := .slice wo D.W.length wc) hb2 rfl
    have fk2 := free_of hb2 2
    obtain ⟨W3, hW3⟩ : ∃ W3, w2.setCell ⟨w.heap.size, 2, none⟩ (.slice ao2 (wout D.W (a : Int)).length cap2) = W3 := ⟨_, rfl⟩
    have hE3 : Ext [w.heap.size] w2 W3 := by rw [← hW3]; exact (Ext.refl [w.heap.size] w2).setCell (.inl (by simp)) _
    have hb3 : W3.heap[w.heap.size]? = some (.cells #[.slice (some ⟨sg, 0, none⟩) D.n sc, .slice (some ⟨tg, 0, none⟩) D.n tc, .slice ao2 (wout D.W (a : Int)).length cap2] 33 (0, 0)) := by rw [← hW3]; exact tri_set2 hb2 _
    have hEw3 : Ext [] w W3 := (H1.out.1.trans hE2).trans' hE3 (fun j hj => .inr (by simp at hj; omega))
    have hlw1 := lt_of_block H1.out.2.1
    have hO3 := owns_ext (m := [w.heap.size]) hO2 hE3 (fun g hg => by have := (hO2.lt g hg).1; simp; omega)
    have hO3 : WtR W3 (.slice ao2 (wout D.W (a : Int)).length cap2) (wout D.W (a : Int)) := owns_base hO3 (Nat.zero_le _)
    have H3 := Lib.hid (And.intro hEw3 (And.intro hb3 (And.intro hO3 (hE3.at (hE2.at H1.out.2.2 (by simp)) (by simp)))))
    clear hE2 hO2 hb2 hE3 hb3 hEw3 hO3 k0 k1 k2 hlw1
    go_upto_region 4 with fail
    try rw [hW3]
    clear hW3 k2' fk2
    obtain ⟨k0, k1, _⟩ := three H3.out.2.1
    have fk1 := free_of H3.out.2.1 1
    have hlt := lt_of_block H3.out.2.1
    obtain ⟨x0, x1, x2, x3, x4, x5, x6, x7⟩ := (H0.out.2.2.2.2.1.ext H3.out.1 (NoT.nil _ _)).eight HA.out
    have HWT := Lib.hid (fun W (hE : Ext [] W3 W) => rf_with tg tc D.n a D.S (lineOf D.L a) W (H0.out.2.2.2.2.2.1.ext (H3.out.1.trans hE) (NoT.nil _ _)) HA.out hn.n1)
    go_cut [5] from 15 to 24 (fun s wx => s = .int .i64 0 ∧ ∃ g2 cap3, Ext [w.heap.size] W3 wx ∧ wx.heap[w.heap.size]? = some (.cells #[.slice (some ⟨sg, 0, none⟩) D.n sc, .slice (some ⟨g2, 0, none⟩) D.n cap3, .slice ao2 (wout D.W (a : Int)).length cap2] 33 (0, 0)) ∧ LnB wx g2 cap3 D.n (setLn D.S a (lineOf D.L a)))
    case first =>
      go_still_tail 8, (by kernel_rfl)
      change wpList _ _ _ _ _ W3.drew
      go_wp2_with fail
      refine (HWT.out _ (Ext.refl [] W3).drew).mono ?_
      rintro e w5 ⟨g5, cap5, rfl, hE5, hL5⟩
      have hX1 : Ext [] W3 w5 := (Ext.refl [] W3).drew.trans hE5
      have HL5 := Lib.hid hL5
      have q1 := hX1.cell k1 (by simp)
      have z1 := hX1.frozen fk1 hlt (by simp)
      clear hL5 hE5 x0 x1 x2 x3 x4 x5 x6 x7
      all_goals
        have hE6 : Ext [w.heap.size] w5 (w5.setCell ⟨w.heap.size, 1, none⟩ (.slice (some ⟨g5, 0, none⟩) D.n cap5)) := (Ext.refl [w.heap.size] w5).setCell (.inl (by simp)) _
        have hb6 := tri_set1 (hX1.at H3.out.2.1 (by simp)) (.slice (some ⟨g5, 0, none⟩) D.n cap5)
        have hN : NoT w5 68 [w.heap.size] := fun g cur hg hm => by simp at hm; subst hm; rw [hX1.at H3.out.2.1 (by simp)] at hg; simp at hg
        have HF := Lib.hid (And.intro (hX1.wide.trans hE6) (And.intro hb6 (HL5.out.ext hE6 hN)))
        clear hE6 hb6 hN
        go_wp2_with fail
        go_meet
        exact ⟨rfl, _, _, HF.out⟩
    case rest =>
      obtain ⟨rfl, g2, cap3, hEc, hbc, hLc⟩ := hcut
      have hb6 := hEc.at H3.out.2.2.2 (by simp)
      have HC := Lib.hid (And.intro hEc (And.intro hbc (And.intro hLc hb6)))
      clear k0 k1 fk1 x0 x1 x2 x3 x4 x5 x6 x7 hEc hLc hlt
      obtain ⟨k0, k1, k2⟩ := three hbc
      obtain ⟨m0, m1, m2⟩ := three hb6
      have f0 := free_of hb6 0
      have f1 := free_of hb6 1
      have f2 := free_of hb6 2
      clear hbc hb6
      go_wp2
      have hEw : Ext [] w wc := H3.out.1.trans' HC.out.1 (fun j hj => .inr (by simp at hj; omega))
      have hE7 := ext_three hEw (g := w.heap.size + 1) (.inr (by omega)) (.slice (some ⟨sg, 0, none⟩) D.n sc) (.slice (some ⟨g2, 0, none⟩) D.n cap3) (.slice ao2 (wout D.W (a : Int)).length cap2)
      have hE67 := ext_three (Ext.refl [w.heap.size + 1] wc) (g := w.heap.size + 1) (.inl (by simp)) (.slice (some ⟨sg, 0, none⟩) D.n sc) (.slice (some ⟨g2, 0, none⟩) D.n cap3) (.slice ao2 (wout D.W (a : Int)).length cap2)
      have hN1 : NoT wc 68 [w.heap.size + 1] := fun g cur hg hm => by simp at hm; subst hm; rw [HC.out.2.2.2] at hg; simp at hg
      have hN2 : NoT wc 70 [w.heap.size + 1] := fun g cur hg hm => by simp at hm; subst hm; rw [HC.out.2.2.2] at hg; simp at hg
      have hN3 : NoT W3 70 [w.heap.size] := fun g cur hg hm => by simp at hm; subst hm; rw [H3.out.2.1] at hg; simp at hg
      refine bodyPost_ret (results_ca Try.results56 _ _ (w.heap.size + 1) _ #[.slice (some ⟨sg, 0, none⟩) D.n sc, .slice (some ⟨g2, 0, none⟩) D.n cap3, .slice ao2 (wout D.W (a : Int)).length cap2] _ _ _ rfl (tri_set HC.out.2.2.2 _ _ _) rfl Try.underlying33 rfl (by kernel_rfl)) rfl ?_
      exact ⟨_, rfl, hE7, sg, sc, g2, cap3, ao2, cap2, rfl, H0.out.2.2.2.2.1.ext hE7 (NoT.nil _ _), HC.out.2.2.1.ext hE67 hN1, (H3.out.2.2.1.ext HC.out.1 hN3).ext hE67 hN2⟩
end Go.Proofs.Ytfojmjkcjdehaaa
namespace Go.Proofs.Ytfojmjkcjdehaaa
open Go Go.RowKit Go.Shelf
attribute [local go_sem] Oper.semAt_some

set_option maxRecDepth 100000 in
set_option maxHeartbeats 2000000 in
theorem rf_Crash (v : Value) (D : Dv) (mo : Option Addr) (mn mcap : Nat) (M : Nat → Bool) (w : World) (h : RefAt w v D) (hn : DvOk D) (hM : BoolsAt w mo mn M) (hmn : mn ≤ 9223372036854775807) :
    Calls Try.prog 57 #[v, .slice mo mn mcap] w fun e w' => ∃ v', e = .returned v' ∧ Ext [] w w' ∧ RefAt w' v' (D.crash (markS mn M)) := by
  obtain ⟨sg, sc, tg, tc, wo, wc, rfl, hS, hT, hW⟩ := h
  obtain ⟨W0, hw0⟩ : ∃ W0, (w.alloc (.cells #[.slice (some ⟨sg, 0, none⟩) D.n sc, .slice (some ⟨tg, 0, none⟩) D.n tc, .slice wo D.W.length wc] 33)).alloc (.cells #[.slice none 0 0, .slice none 0 0, .slice none 0 0] 33) = W0 := ⟨_, rfl⟩
  have hE0 : Ext [] w W0 := by rw [← hw0]; exact ((Ext.refl [] w).alloc _).alloc _
  obtain ⟨hb3, hb6, hs0⟩ := al2_heap (w := w) #[.slice (some ⟨sg, 0, none⟩) D.n sc, .slice (some ⟨tg, 0, none⟩) D.n tc, .slice wo D.W.length wc] #[.slice none 0 0, .slice none 0 0, .slice none 0 0] 33 33
  rw [hw0] at hb3 hb6 hs0
  have hnT : NoT W0 68 [w.heap.size] := fun g cur hg hm => by simp at hm; subst hm; rw [hb3] at hg; simp at hg
  have hnW : NoT W0 70 [w.heap.size] := fun g cur hg hm => by simp at hm; subst hm; rw [hb3] at hg; simp at hg
  have H0 := Lib.hid (And.intro hE0 (And.intro hb6 (And.intro hb3 (And.intro hs0 (And.intro (hS.ext hE0 (NoT.nil _ _)) (And.intro (hT.ext hE0 (NoT.nil _ _)) (And.intro (hW.ext hE0 (NoT.nil _ _)) (And.intro hnT hnW))))))))
  have HD := Lib.hid hn
  have HMK := Lib.hid (And.intro hM hmn)
  clear hM hmn
  obtain ⟨m, hm⟩ : ∃ m, D.W.length = m := ⟨_, rfl⟩
  have HM := Lib.hid hm
  rw [hm] at hw0 ⊢
  clear hE0 hb6 hb3 hs0 hS hT hW hm hn hnT hnW
  go_enter Try.func57, Try.ntmps57
  go_wp2
  go_loopg [5] m (fun cnt i wr => ∃ j : Nat, i = .int .i64 j ∧ j + cnt = m ∧ StlAt sg sc tc wc D.n wo w.heap.size (markS mn M) D.W D.S W0 j wr)
  case atStart => exact ⟨0, rfl, by omega, tg, tc, Ext.refl _ _, H0.out.2.2.1, H0.out.2.2.2.2.2.1, rfl⟩
  case round =>
    obtain ⟨j, rfl, hj, g, cap, hE, hb, hL, _⟩ := hrel
    rw [HM.out] at hb
    have hlt0 := lt_of_block hb
    have hjm : (j : Int) ≤ 1024 := by have := HM.out; have := HD.out.wl; omega
    by_cases hlt : j < m
    · obtain ⟨gw, rfl, x0, x1, x2, x3, x4, x5, x6, x7, x8⟩ := (H0.out.2.2.2.2.2.2.1.ext hE H0.out.2.2.2.2.2.2.2.2).nine (i := j) (by rw [HM.out]; exact hlt)
      obtain ⟨p, hp⟩ : ∃ p, D.W.getD j wtD = p := ⟨_, rfl⟩
      rw [hp] at x0 x1 x2 x3 x4 x5 x6 x7 x8
      have hpn : p.1 < D.n := by rw [← hp]; exact HD.out.lt _ (getD_mem (by rw [HM.out]; exact hlt))
      have hst := stl_step (markS mn M) D.W D.S j (by rw [HM.out]; exact hlt)
      rw [hp] at hst
      have hEw : Ext [] w wr := H0.out.1.trans' hE (fun q hq => .inr (by simp at hq; omega))
      have hMr := HMK.out.1.ext hEw
      obtain ⟨k0, k1, k2⟩ := three hb
      have fk1 := free_of hb 1
      have hi0 : (0 : Int) ≤ (j : Int) := by omega
      have hi1 : (j : Int) < (m : Int) := by omega
      have HWT := Lib.hid (fun W (hE : Ext [] wr W) => rf_with g cap D.n p.1 (stl (markS mn M) 0 (D.W.take j) D.S) p.2 W (hL.ext hE (NoT.nil _ _)) hpn HD.out.n1)
      have HJ := Lib.hid (And.intro hj (And.intro hlt (And.intro hE (And.intro hb (And.intro hst hL)))))
      clear hj hE hb hst hpn hp hL hEw
      have HMR := Lib.hid hMr
      clear hMr
      by_cases hlm : j < mn
      · have hdm : decide (j < mn) = true := by simpa using hlm
        have hl1 : (j : Int) < (mn : Int) := by omega
        obtain ⟨bm, om, rfl, y0⟩ : ∃ bm om, mo = some ⟨bm, om, none⟩ ∧ wr.cell? ⟨bm, om + j, none⟩ = some (.bool (M j)) := by
          rcases HMR.out with h | ⟨bm, om, h1, h2⟩
          · omega
          · exact ⟨bm, om, h1, h2 j hlm⟩
        cases hmk : M j with
        | true =>
          rw [hmk] at y0
          have HB := Lib.hid (show markS mn M j = true from by unfold markS; rw [hdm, hmk]; rfl)
          clear hmk hlm
          go_wp2
          go_still_tail 14, (by kernel_rfl)
          change wpList _ _ _ _ _ wr.drew
          go_wp2_with fail
          refine (HWT.out _ (Ext.refl [] wr).drew).mono ?_
          rintro e w2 ⟨g2, cap2, rfl, hE2, hL2⟩
          have hX1 : Ext [] wr w2 := (Ext.refl [] wr).drew.trans hE2
          have HL2 := Lib.hid hL2
          have q1 := hX1.cell k1 (by simp)
          have z1 := hX1.frozen fk1 hlt0 (by simp)
          clear hL2 hE2 x0 x1 x2 x3 x4 x5 x6 x7 x8
          go_wp2
          go_roundg (m - (j + 1))
          case measure => have := HJ.out.1; omega
          case rel =>
            have hb2 := tri_set1 (hX1.at HJ.out.2.2.2.1 (by simp)) (.slice (some ⟨g2, 0, none⟩) D.n cap2)
            have hE2 : Ext [w.heap.size] w2 (w2.setCell ⟨w.heap.size, 1, none⟩ (.slice (some ⟨g2, 0, none⟩) D.n cap2)) := (Ext.refl [w.heap.size] w2).setCell (.inl (by simp)) _
            refine ⟨j + 1, by go_num, by have := HJ.out; omega, g2, cap2, (HJ.out.2.2.1.then hX1).trans hE2, ?_, ?_, rfl⟩
            · rw [HM.out]; exact hb2
            · rw [HJ.out.2.2.2.2.1, HB.out, if_pos rfl]
              refine HL2.out.ext hE2 (fun g3 cur hg hm => ?_)
              simp at hm
              subst hm
              rw [hX1.at HJ.out.2.2.2.1 (by simp)] at hg
              simp at hg
        | false =>
          rw [hmk] at y0
          have HB := Lib.hid (show markS mn M j = false from by unfold markS; rw [hdm, hmk]; rfl)
          clear hmk hlm
          go_wp2
          go_roundg (m - (j + 1))
          case measure => have := HJ.out.1; omega
          case rel =>
            refine ⟨j + 1, by go_num, by have := HJ.out; omega, g, cap, HJ.out.2.2.1, ?_, ?_, rfl⟩
            · rw [HM.out]; exact HJ.out.2.2.2.1
            · rw [HJ.out.2.2.2.2.1, HB.out]; exact HJ.out.2.2.2.2.2
      · have hdm : decide (j < mn) = false := by simpa using hlm
        have HB := Lib.hid (show markS mn M j = false from by unfold markS; rw [hdm]; rfl)
        clear hlm
        go_wp2
        go_roundg (m - (j + 1))
        case measure => have := HJ.out.1; omega
        case rel =>
          refine ⟨j + 1, by go_num, by have := HJ.out; omega, g, cap, HJ.out.2.2.1, ?_, ?_, rfl⟩
          · rw [HM.out]; exact HJ.out.2.2.2.1
          · rw [HJ.out.2.2.2.2.1, HB.out]; exact HJ.out.2.2.2.2.2
    · have hd : decide (j < m) = false := by simpa using hlt
      obtain rfl : j = m := by omega
      have HJ := Lib.hid (And.intro hE (And.intro hb hL))
      obtain ⟨k0, k1, k2⟩ := three hb
      have fk2 := free_of hb 2
      clear hj hE hb hL hlt
      obtain ⟨W2, hW2⟩ : ∃ W2, wr.setCell ⟨w.heap.size, 2, none⟩ (.slice none 0 0) = W2 := ⟨_, rfl⟩
      have hE2 : Ext [w.heap.size] wr W2 := by rw [← hW2]; exact (Ext.refl [w.heap.size] wr).setCell (.inl (by simp)) _
      have hb2 : W2.heap[w.heap.size]? = some (.cells #[.slice (some ⟨sg, 0, none⟩) D.n sc, .slice (some ⟨g, 0, none⟩) D.n cap, .slice none 0 0] 33 (0, 0)) := by
        rw [← hW2]; exact tri_set2 HJ.out.2.1 _
      have hb6 := hE2.at (HJ.out.1.at H0.out.2.1 (by simp)) (by simp)
      obtain ⟨m0, m1, m2⟩ := three hb6
      have f0 := free_of hb6 0
      have f1 := free_of hb6 1
      have f2 := free_of hb6 2
      have H2 := Lib.hid (And.intro hE2 (And.intro hb2 hb6))
      clear hE2 hb2 hb6
      go_upto_region 7 with fail
      try rw [hW2]
      clear hW2 k0 k1 k2 fk2
      obtain ⟨k0, k1, k2⟩ := three H2.out.2.1
      have fk0 := free_of H2.out.2.1 0
      have hN1 : NoT wr 68 [w.heap.size] := fun g cur hg hm => by simp at hm; subst hm; rw [HJ.out.2.1] at hg; simp at hg
      have hEw : Ext [] w W2 := H0.out.1.trans' (HJ.out.1.trans H2.out.1) (fun j hj => .inr (by simp at hj; omega))
      have HL := Lib.hid (And.intro (HJ.out.2.2.ext H2.out.1 hN1) hEw)
      obtain ⟨i0, hi, hz0, hz1, hz2⟩ := info_parts infoL8
      have hI1 := Lib.hid hi
      have hI2 := Lib.hid hz0
      have hI3 := Lib.hid hz1
      have hI4 := Lib.hid hz2
      clear hi hz0 hz1 hz2 hN1 hEw m0 m1 m2 f0 f1 f2
      go_wp2_with (at_builtin; refine wpList_append_any rfl _ _ _ rfl W2.heap.size 68 i0 _ 8 64 Try.underlying30 hI1.out hI2.out hI3.out hI4.out rfl (by omega) (.slice none 0 0) 0 [] rfl (World.ownsRow_nil _ _ _ _) _ D.n cap (rowC (lnR (stl (markS mn M) 0 (D.W.take j) D.S)) D.n) rfl ?c0 ?c1 ?c2 (Nat.le_refl _) ?_)
      case c0 => exact HL.out.1.src
      case c1 => have := HD.out.n1; unfold maxLen; omega
      case c2 => have := HD.out.n1; omega
      intro v4 w4 ho4 hE4 hn4
      obtain ⟨g4, cap4, rfl, hL4, hg4⟩ := LnB.of_append (n := D.n) ho4 HD.out.n0
      have hE4' : Ext [] W2 w4 := hE4
      have hb4 := hE4'.at H2.out.2.1 (by simp)
      have q0 := cell_of (j := 0) (v := .slice (some ⟨sg, 0, none⟩) D.n sc) hb4 rfl
      have z0 := free_of hb4 0
      obtain ⟨W5, hW5⟩ : ∃ W5, w4.setCell ⟨w.heap.size, 0, none⟩ (.slice (some ⟨g4, 0, none⟩) D.n cap4) = W5 := ⟨_, rfl⟩
      have hE5 : Ext [w.heap.size] w4 W5 := by rw [← hW5]; exact (Ext.refl [w.heap.size] w4).setCell (.inl (by simp)) _
      have hb5 : W5.heap[w.heap.size]? = some (.cells #[.slice (some ⟨g4, 0, none⟩) D.n cap4, .slice (some ⟨g, 0, none⟩) D.n cap, .slice none 0 0] 33 (0, 0)) := by
        rw [← hW5]; exact tri_set0 hb4 _
      have hN4 : NoT w4 68 [w.heap.size] := fun g cur hg hm => by simp at hm; subst hm; rw [hb4] at hg; simp at hg
      have H5 := Lib.hid (And.intro ((HL.out.2.trans hE4').trans' hE5 (fun j hj => .inr (by simp at hj; omega))) (And.intro hb5 (And.intro (hE5.at (hE4'.at H2.out.2.2 (by simp)) (by simp)) (And.intro (hL4.ext hE5 hN4) ((HL.out.1.ext hE4' (NoT.nil _ _)).ext hE5 hN4)))))
      clear ho4 hE4 hn4 hL4 hg4 hE4' hb4 hE5 hb5 hN4 k0 k1 k2 fk0
      go_upto_region 8 with fail
      try rw [hW5]
      clear hW5 q0 z0
      obtain ⟨k0, k1, k2⟩ := three H5.out.2.1
      obtain ⟨m0, m1, m2⟩ := three H5.out.2.2.1
      have f0 := free_of H5.out.2.2.1 0
      have f1 := free_of H5.out.2.2.1 1
      have f2 := free_of H5.out.2.2.1 2
      go_wp2
      have hE7 := ext_three H5.out.1 (g := w.heap.size + 1) (.inr (by omega)) (.slice (some ⟨g4, 0, none⟩) D.n cap4) (.slice (some ⟨g, 0, none⟩) D.n cap) (.slice none 0 0)
      have hE27 := ext_three (Ext.refl [w.heap.size + 1] W5) (g := w.heap.size + 1) (.inl (by simp)) (.slice (some ⟨g4, 0, none⟩) D.n cap4) (.slice (some ⟨g, 0, none⟩) D.n cap) (.slice none 0 0)
      have hN2 : NoT W5 68 [w.heap.size + 1] := fun g cur hg hm => by simp at hm; subst hm; rw [H5.out.2.2.1] at hg; simp at hg
      refine bodyPost_ret (results_agg Try.results57 _ _ (w.heap.size + 1) _ #[.slice (some ⟨g4, 0, none⟩) D.n cap4, .slice (some ⟨g, 0, none⟩) D.n cap, .slice none 0 0] _ _ rfl (tri_set H5.out.2.2.1 _ _ _) Try.underlying33 rfl (by kernel_rfl)) rfl ?_
      have hS4 := H5.out.2.2.2.1
      have hS5 := H5.out.2.2.2.2
      rw [← HM.out, List.take_length] at hS4 hS5
      exact ⟨_, rfl, hE7, g4, cap4, g, cap, none, 0, rfl, hS4.ext hE27 hN2, hS5.ext hE27 hN2, World.ownsRow_nil _ _ _ _⟩
end Go.Proofs.Ytfojmjkcjdehaaa
