/- The walk of the law PmemPlays. -/
import Derived.Test.YtfojmjkcjdehaaaPnW
namespace Go.Proofs.Ytfojmjkcjdehaaa
open Go Go.RowKit Go.Shelf
attribute [local go_sem] Oper.semAt_some

set_option maxRecDepth 100000 in
set_option maxHeartbeats 8000000 in
theorem pm_plays (ln : Int) (ao : Option Addr) (n cap : Nat) (A : Nat → PAct) (w : World) (hp : PActs w ao n A) (hn : n ≤ maxLen) (hA : ∀ i, i < n → PActOk (A i)) :
    Calls Try.prog 5 #[.int .i64 ln, .slice ao n cap] w fun e w' => e = .returned (.bool true) ∧ Ext [] w w' := by
  unfold maxLen at hn
  unfold PActOk maxLen at hA
  have HW := Lib.hid pm_works
  have fin : Hid (∀ (Ds : List Nat) (W : World) (x : Value), (∀ D ∈ Ds, W.heap[D]? = some (.deferred (some [])) ∧ w.heap.size < D) → Ds.Nodup → W.heap[w.heap.size]? = some (.cells #[x] 4 (0, 0)) → Ext [] w W → ∀ tmps : Array Value, tmps.getD 4 undef = .pointer (some ⟨w.heap.size, 0, none⟩) →
      LeavesInM Fence.wide 0 Try.prog Try.f5 tmps (fun e w' => e = .returned (.bool true) ∧ Ext [] w w') (Ds.map fun D => { target := .collected D, args := #[] }) .returning (W.setCell ⟨w.heap.size, 0, none⟩ (.bool true))) := by
    intro Ds W x hD hnd hb hE tmps ht
    obtain ⟨W5, hW5⟩ : ∃ W5, W5 = W.setCell ⟨w.heap.size, 0, none⟩ (.bool true) := ⟨_, rfl⟩
    have b5 : W5.heap[w.heap.size]? = some (.cells #[.bool true] 4 (0, 0)) := by rw [hW5]; exact cell1_set hb _
    have e5 : Ext [] w W5 := by rw [hW5]; exact hE.setCell (.inr (by simp)) _
    have d5 : ∀ D ∈ Ds, W5.heap[D]? = some (.deferred (some [])) := fun D hd => by rw [hW5]; exact block_sc (show D ≠ w.heap.size by have := (hD D hd).2; omega) (hD D hd).1
    rw [← hW5]
    exact leaves_marks (v := .bool true) Ds W5 d5 hnd (fun w' hE' => ⟨results_cellb Try.results5 _ _ ⟨w.heap.size, 0, none⟩ _ (by kernel_rfl) ht (hE'.cell (cell_of (j := 0) b5 rfl) (fun hm => by have := (hD _ hm).2; simp at this)), rfl, e5.trans' hE' (fun j hj => .inr (by have := (hD j hj).2; omega))⟩)
  obtain ⟨w0, hw0⟩ : ∃ w0, w.alloc (.cells #[.bool false] 4) = w0 := ⟨_, rfl⟩
  have hE0 : Ext [] w w0 := by rw [← hw0]; exact (Ext.refl _ _).alloc _
  have hb0 : w0.heap[w.heap.size]? = some (.cells #[.bool false] 4 (0, 0)) := by rw [← hw0]; exact World.alloc_heap_new _ _
  have HF := Lib.hid (fun W (hE : Ext [] w W) => pm_few ao n cap A 40 W (hp.ext hE) hn hA)
  have HP := Lib.hid (And.intro hp (And.intro hA hn))
  have H0 := Lib.hid (And.intro hE0 hb0)
  clear hE0 hb0 hp hA hn
  refine (callsIn_wide (n := 0)).1 (callsIn_of_wp_marks Try.func5 rfl trivial ?_ rfl)
  simp only [Try.ntmps5, List.size_toArray, List.length_cons, List.length_nil, Nat.reduceAdd, Nat.reduceSub, Array.replicate_succ, Array.replicate_zero, List.push_toArray, List.append_toArray, List.nil_append, List.cons_append]
  refine wpIn_wide.2 (wp_mono (Q := NoPanic (bodyPostM Fence.wide 0 Try.prog Try.f5 fun e w' => e = .returned (.bool true) ∧ Ext [] w w')) ?_ NoPanic.out)
  by_cases hr : 1 ≤ ln ∧ ln ≤ 1024
  · obtain ⟨N, rfl⟩ : ∃ N : Nat, ln = (N : Int) := ⟨ln.toNat, by omega⟩
    have hN1 : 1 ≤ N := by omega
    have hN2 : N ≤ 1024 := by omega
    have g1 : ¬ ((N : Int) < 1) := by omega
    have g2 : ¬ ((1024 : Int) < (N : Int)) := by omega
    have HNN := Lib.hid (And.intro hN1 hN2)
    have HNW := Lib.hid (pm_New N w0 hN1 hN2)
    clear hr hN1 hN2
    go_wp2_with fail
    refine HNW.out.mono ?_
    rintro e w1 ⟨rfl, hE1, lb, sb, hD1, hl1, hs1⟩
    obtain ⟨d, hdd⟩ : ∃ d, w0.heap.size + 2 = d := ⟨_, rfl⟩
    rw [hdd] at hD1 ⊢
    have H1 := Lib.hid (And.intro hE1 (And.intro hD1 (And.intro hl1 (And.intro hs1 (show w0.heap.size ≤ d by omega)))))
    clear hE1 hD1 hl1 hs1 hdd hw0
    have HSM : Hid (∀ W, Ext [] w1 W → Calls Try.prog 24 #[.pointer (some ⟨d, 0, none⟩)] W fun e w' => e = .returned (.agg #[.int .i64 (N : Int), .int .i64 0, .int .i64 0]) ∧ Ext [] W w') := by
      intro W hE
      rw [← media_new]
      exact pm_State d lb sb (dvNew N) W (H1.out.2.1.ext0 hE) (dvNew_ok HNN.out.1 HNN.out.2)
    have heq : ∀ w, (binOp .eql 49 (.agg #[.int .i64 (N : Int), .int .i64 0, .int .i64 0]) (.agg #[.int .i64 (N : Int), .int .i64 0, .int .i64 0])).run Try.prog w = .ok (.bool true) w := by
      intro w
      rw [eqMediaB]
      simp
    by_cases hbig : (12 : Int) < (N : Int)
    · go_wp2_with (first
        | (go_at_call 19; refine (pm_num _ _).mono ?_; rintro e w' ⟨rfl, rfl⟩)
        | (go_at_call 24; refine (HSM.out _ (Ext.refl _ _)).mono ?_; rintro e w2 ⟨rfl, hE2⟩; have hb2 := (H1.out.1.trans hE2).at H0.out.2 (by simp); have H2 := Lib.hid (And.intro ((H0.out.1.trans H1.out.1).trans hE2) hb2); clear hE2 hb2)
        | (go_at_call 13; refine (HW.out _).mono ?_; rintro e w3 ⟨rfl, hE3⟩; have hb3 := hE3.at H2.out.2 (by simp); have H3 := Lib.hid (And.intro (H2.out.1.trans hE3) hb3); have k3 := cell_of (j := 0) (v := .bool false) hb3 rfl; have f3 := free_of hb3 0; clear hE3 hb3))
      show LeavesInM _ _ _ _ _ _ _ _ _
      refine fin.out [] w3 (.bool false) (fun D hD => (by cases hD)) (by simp) H3.out.2 H3.out.1 _ ?_
      rfl
    · cases hf : fewP n A 40 with
      | false =>
        rw [hf] at HF
        clear hf
        go_wp2_with fail
        refine (HF.out _ (H0.out.1.trans H1.out.1)).mono ?_
        rintro e w' ⟨rfl, rfl⟩
        go_wp2_with (first
          | (go_at_call 19; refine (pm_num _ _).mono ?_; rintro e w' ⟨rfl, rfl⟩)
          | (go_at_call 24; refine (HSM.out _ (Ext.refl _ _)).mono ?_; rintro e w2 ⟨rfl, hE2⟩; have hb2 := (H1.out.1.trans hE2).at H0.out.2 (by simp); have H2 := Lib.hid (And.intro ((H0.out.1.trans H1.out.1).trans hE2) hb2); clear hE2 hb2)
          | (go_at_call 13; refine (HW.out _).mono ?_; rintro e w3 ⟨rfl, hE3⟩; have hb3 := hE3.at H2.out.2 (by simp); have H3 := Lib.hid (And.intro (H2.out.1.trans hE3) hb3); have k3 := cell_of (j := 0) (v := .bool false) hb3 rfl; have f3 := free_of hb3 0; clear hE3 hb3))
        show LeavesInM _ _ _ _ _ _ _ _ _
        refine fin.out [] w3 (.bool false) (fun D hD => (by cases hD)) (by simp) H3.out.2 H3.out.1 _ ?_
        rfl
      | true =>
        have HFW := Lib.hid (fewP_true hf)
        rw [hf] at HF
        clear hf heq HSM
        go_wp2_with fail
        refine (HF.out _ (H0.out.1.trans H1.out.1)).mono ?_
        rintro e w' ⟨rfl, rfl⟩
        go_wp2_with fail
        refine (rf_New N w1 HNN.out.1 HNN.out.2).mono ?_
        rintro e w2 ⟨v2, rfl, hE2, hR2⟩
        have hR2' := hR2
        obtain ⟨sg0, sc0, tg0, tc0, wo0, wc0, rfl, r1, r2, r3⟩ := hR2'
        obtain ⟨w3, hw3⟩ : ∃ w3, w2.alloc (.cells #[.slice (some ⟨sg0, 0, none⟩) (dvNew N).n sc0, .slice (some ⟨tg0, 0, none⟩) (dvNew N).n tc0, .slice wo0 (dvNew N).W.length wc0] 33) = w3 := ⟨_, rfl⟩
        have hst : ∃ g, w2.heap.size = g ∧ PlSt w w3 N d lb sb g (dvNew N) := by
          have hE3 : Ext [] w2 w3 := by rw [← hw3]; exact (Ext.refl _ _).alloc _
          have hlt := lt_of_block H0.out.2
          have h3 := H1.out.2.2
          have h4 := hE2.size
          have h5 := H1.out.1.size
          refine ⟨_, rfl, H1.out.2.1.ext0 (hE2.trans hE3), dvNew_ok HNN.out.1 HNN.out.2, rfl, ⟨sg0, sc0, tg0, tc0, wo0, wc0, by rw [← hw3]; exact World.alloc_heap_new _ _, ?_⟩, (H1.out.1.trans (hE2.trans hE3)).at H0.out.2 (by simp), (H0.out.1.trans H1.out.1).trans (hE2.trans hE3), by omega, by omega, by omega, by omega⟩
          exact RefAt.ext0 ⟨sg0, sc0, tg0, tc0, wo0, wc0, rfl, r1, r2, r3⟩ hE3
        obtain ⟨g, hg, hst⟩ := hst
        have HS0 := Lib.hid hst
        clear hst hE2 hR2 r1 r2 r3 hbig
        go_wp2
        try rw [hw3]
        try rw [hg]
        clear hg hw3
        go_loopg [5, 8] n (fun cnt p i wr => ∃ (j d lb sb : Nat) (D : Dv), p = .pointer (some ⟨d, 0, none⟩) ∧ i = .int .i64 j ∧ j + cnt = n ∧ PlSt w wr N d lb sb g D)
        case atStart => exact ⟨0, d, lb, sb, dvNew N, rfl, rfl, by omega, HS0.out⟩
        case round =>
          obtain ⟨j, d, lb, sb, D, rfl, rfl, hj, hst⟩ := hrel
          have HST := Lib.hid hst
          clear hst
          by_cases hlt : j < n
          · obtain ⟨b, off, rfl, x0, x1, x2, x3, x4, x5, x6⟩ : ∃ b off, ao = some ⟨b, off, none⟩ ∧ w.cell? ⟨b, off + j * 6, none⟩ = some (.int .i64 (A j).what) ∧ w.cell? ⟨b, off + j * 6 + 1, none⟩ = some (.int .i64 (A j).at') ∧ w.cell? ⟨b, off + j * 6 + 2, none⟩ = some (.int .i64 (A j).line) ∧
                w.cell? ⟨b, off + j * 6 + 3, none⟩ = some (.int .u64 (A j).wd) ∧ w.cell? ⟨b, off + j * 6 + 4, none⟩ = some (.int .u64 (A j).fr) ∧ w.cell? ⟨b, off + j * 6 + 5, none⟩ = some (.slice (A j).bo (A j).n (A j).cap) ∧ BoolsAt w (A j).bo (A j).n (A j).M := by
              rcases HP.out.1 with h | ⟨b, off, h1, h2⟩
              · omega
              · exact ⟨b, off, h1, h2 j hlt⟩
            have HM := Lib.hid x6
            have HMN := Lib.hid (HP.out.2.1 j hlt)
            obtain ⟨sg, sc, tg, tc, wo, wc, hgc, hgR⟩ := HST.out.want
            have hgn := HST.out.want.ne HST.out.dev
            have HS : Hid (∀ W, Ext [d, lb, sb] wr W → (W.cell? ⟨g, 0, none⟩ = some (.slice (some ⟨sg, 0, none⟩) D.n sc) ∧ W.cell? ⟨g, 1, none⟩ = some (.slice (some ⟨tg, 0, none⟩) D.n tc) ∧ W.cell? ⟨g, 2, none⟩ = some (.slice wo D.W.length wc)) ∧ (W.cell? ⟨b, off + j * 6, none⟩ = some (.int .i64 (A j).what) ∧ W.cell? ⟨b, off + j * 6 + 1, none⟩ = some (.int .i64 (A j).at') ∧ W.cell? ⟨b, off + j * 6 + 2, none⟩ = some (.int .i64 (A j).line) ∧ W.cell? ⟨b, off + j * 6 + 3, none⟩ = some (.int .u64 (A j).wd) ∧ W.cell? ⟨b, off + j * 6 + 4, none⟩ = some (.int .u64 (A j).fr) ∧ W.cell? ⟨b, off + j * 6 + 5, none⟩ = some (.slice (A j).bo (A j).n (A j).cap))) := fun W hE => by
              obtain ⟨q0, q1, q2⟩ := three (hE.at hgc hgn)
              have hEw := HST.out.extD hE
              exact ⟨⟨q0, q1, q2⟩, hEw.cell x0 (by simp), hEw.cell x1 (by simp), hEw.cell x2 (by simp), hEw.cell x3 (by simp), hEw.cell x4 (by simp), hEw.cell x5 (by simp)⟩
            have HACT := Lib.hid (fun W (hE : Ext [] wr W) => pm_act d lb sb D D (.agg #[.slice (some ⟨sg, 0, none⟩) D.n sc, .slice (some ⟨tg, 0, none⟩) D.n tc, .slice wo D.W.length wc]) (A j) W (HST.out.dev.ext0 hE) HST.out.ok (hgR.ext0 hE) HST.out.ok rfl (fun W' hE' => HM.out.ext (HST.out.extD (hE.wide.trans hE'))) HMN.out)
            have HGC := Lib.hid (And.intro hgc hgn)
            have hi0 : (0 : Int) ≤ (j : Int) := by omega
            have hi1 : (j : Int) < (n : Int) := by omega
            have HJ := Lib.hid (And.intro hj hlt)
            clear hj hlt x0 x1 x2 x3 x4 x5 x6 hgc hgn hgR
            have hnz : wr.heap.size ∉ [d, lb, sb] := fun hm => by have := HST.out.dev.lt; simp at hm; omega
            go_upto_region 10 with fail
            go_cut [9, 10, 11] from 68 to 78 (fun s9 s10 s11 wx => ∃ d' lb' sb' b10, s9 = .pointer (some ⟨d', 0, none⟩) ∧ s10 = .pointer (some ⟨b10, 0, none⟩) ∧ s11 = .bool true ∧ PlAct w wr wx N d lb sb d' lb' sb' b10 (actD D (A j)))
            case first =>
              go_region_held3 (fun W => (W.cell? ⟨g, 0, none⟩ = some (.slice (some ⟨sg, 0, none⟩) D.n sc) ∧ W.cell? ⟨g, 1, none⟩ = some (.slice (some ⟨tg, 0, none⟩) D.n tc) ∧ W.cell? ⟨g, 2, none⟩ = some (.slice wo D.W.length wc)) ∧ (W.cell? ⟨b, off + j * 6, none⟩ = some (.int .i64 (A j).what) ∧ W.cell? ⟨b, off + j * 6 + 1, none⟩ = some (.int .i64 (A j).at') ∧ W.cell? ⟨b, off + j * 6 + 2, none⟩ = some (.int .i64 (A j).line) ∧ W.cell? ⟨b, off + j * 6 + 3, none⟩ = some (.int .u64 (A j).wd) ∧ W.cell? ⟨b, off + j * 6 + 4, none⟩ = some (.int .u64 (A j).fr) ∧ W.cell? ⟨b, off + j * 6 + 5, none⟩ = some (.slice (A j).bo (A j).n (A j).cap)))
                (first
                  | exact HS.out _ (Ext.refl _ _).drew
                  | exact HS.out _ ((Ext.refl _ _).drew.alloc _)
                  | exact HS.out _ ((Ext.refl _ _).alloc _).drew
                  | exact HS.out _ hX5
                  | exact HS.out _ (hX5.alloc _)
                  | exact HS.out _ (ext_three hX5 (.inr (Nat.le_refl _)) _ _ _))
                ((first
                  | (go_at_call 15; refine (HACT.out _ ?_).mono ?_
                     · (first | exact (Ext.refl _ _).drew | exact (Ext.refl _ _).drew.alloc _ | exact ((Ext.refl _ _).alloc _).drew)
                     rintro e w5 ⟨d', lb', sb', v5, b5, rfl, hE5, hD5, hR5, hd5, hl5, hs5, hb5⟩
                     obtain rfl : b5 = true := hb5 rfl
                     have hR5' := hR5
                     obtain ⟨sg5, sc5, tg5, tc5, wo5, wc5, rfl, _, _, _⟩ := hR5'
                     have hX5 : Ext [d, lb, sb] wr w5 := by first | exact (Ext.refl [d, lb, sb] wr).drew.trans hE5 | exact ((Ext.refl [d, lb, sb] wr).drew.alloc _).trans hE5 | exact ((Ext.refl [d, lb, sb] wr).alloc _).drew.trans hE5
                     try (
                          have hzz : w5.heap[wr.heap.size]? = some (.cells #[.slice none 0 0, .slice none 0 0, .slice none 0 0] 33 (0, 0)) := by first | exact hE5.at (World.alloc_heap_new wr.drew (.cells #[.slice none 0 0, .slice none 0 0, .slice none 0 0] 33)) hnz | exact hE5.at (World.alloc_heap_new wr (.cells #[.slice none 0 0, .slice none 0 0, .slice none 0 0] 33)) hnz
                          obtain ⟨z0, z1, z2⟩ := three hzz; have zf0 := free_of hzz 0; have zf1 := free_of hzz 1; have zf2 := free_of hzz 2; have HZZ := Lib.hid hzz; clear hzz)
                     have hd5' : d' = d ∨ wr.heap.size ≤ d' := hd5.imp_right (Nat.le_trans (by first | exact (Ext.refl [] wr).drew.size | exact ((Ext.refl [] wr).drew.alloc _).size | exact ((Ext.refl [] wr).alloc _).drew.size))
                     have hl5' : lb' = lb ∨ wr.heap.size ≤ lb' := hl5.imp_right (Nat.le_trans (by first | exact (Ext.refl [] wr).drew.size | exact ((Ext.refl [] wr).drew.alloc _).size | exact ((Ext.refl [] wr).alloc _).drew.size))
                     have hs5' : sb' = sb ∨ wr.heap.size ≤ sb' := hs5.imp_right (Nat.le_trans (by first | exact (Ext.refl [] wr).drew.size | exact ((Ext.refl [] wr).drew.alloc _).size | exact ((Ext.refl [] wr).alloc _).drew.size))
                     have H5 := Lib.hid (And.intro hD5 (And.intro hR5 (And.intro hd5' (And.intro hl5' (And.intro hs5' hE5)))))
                     clear hD5 hR5 hd5 hl5 hs5 hd5' hl5' hs5' hE5 hb5)
                  | fail))
              all_goals
                go_wp2_with fail
                go_meet
                first
                  | exact ⟨d', lb', sb', w5.heap.size, rfl, rfl, rfl, PlAct.new H5.out.1 H5.out.2.1 hX5 H5.out.2.2.1 H5.out.2.2.2.1 H5.out.2.2.2.2.1⟩
                  | exact ⟨d', lb', sb', wr.heap.size, rfl, rfl, rfl, PlAct.set HZZ.out (Nat.le_refl _) H5.out.1 H5.out.2.1 hX5 H5.out.2.2.1 H5.out.2.2.2.1 H5.out.2.2.2.2.1⟩
            case rest =>
              obtain ⟨d', lb', sb', b10, rfl, rfl, rfl, hpa⟩ := hcut
              have HPA := Lib.hid hpa
              obtain ⟨sg6, sc6, tg6, tc6, wo6, wc6, hb6, hR6⟩ := hpa.want
              obtain ⟨p0, p1, p2⟩ := three hb6
              have hgw := hpa.ext.at HGC.out.1 HGC.out.2
              obtain ⟨r0, r1, r2⟩ := three hgw
              have f0 := free_of hgw 0
              have f1 := free_of hgw 1
              have f2 := free_of hgw 2
              have HR6 := Lib.hid hR6
              clear hpa hb6 hR6 hgw hnz
              go_upto_region 11 with fail
              go_cut [5] from 79 to 80 (fun s wx => s = .pointer (some ⟨d', 0, none⟩) ∧ PlSt w wx N d' lb' sb' g (actD D (A j)))
              case first =>
                go_region
                all_goals
                  go_wp2_with fail
                  go_meet
                  refine ⟨rfl, ?_⟩
                  have h := HST.out.step HPA.out (actD_ok HST.out.ok _) ((actD_n _ _).trans HST.out.nn) HR6.out
                  first
                    | exact h.ext1 (Ext.refl [] _).drew
                    | exact h
              case rest =>
                obtain ⟨rfl, hst2⟩ := hcut
                have HS2 := Lib.hid hst2
                clear hst2 p0 p1 p2 r0 r1 r2 f0 f1 f2
                go_wp2
                go_roundg (n - (j + 1))
                case measure => have := HJ.out; omega
                case rel => exact ⟨j + 1, d', lb', sb', _, rfl, by have h1 := HP.out.2.2; have h2 := HJ.out; have hwj : wrap64 ((j : Int) + 1) = (j : Int) + 1 := IntWalk.wrap64_in _ (by omega); rw [hwj]; rfl, by have := HJ.out; omega, HS2.out⟩
          · have hd : decide (j < n) = false := by simpa using hlt
            have HJ := Lib.hid (And.intro hj hlt)
            clear hj hlt
            go_wp2_with fail
            all_goals
              first
                | (obtain ⟨W0, hW0⟩ : ∃ W0, wr.alloc (.cells #[.slice none 0 0, .slice none 0 0, .slice none 0 0] 59) = W0 := ⟨_, rfl⟩
                   have HNP : Hid (Ext [] wr W0 ∧ ∀ W, Ext [] W0 W → NoneD W (.pointer (some ⟨wr.heap.size, 0, none⟩))) :=
                     ⟨by rw [← hW0]; exact (Ext.refl _ _).alloc _, fun W hE => NoneD.ext (.inr ⟨_, rfl, by rw [← hW0]; exact World.alloc_heap_new _ _⟩) hE⟩
                   rw [hW0]
                   clear hW0
                   obtain ⟨bo, hbo⟩ : ∃ bo : Option Addr, some ⟨wr.heap.size, 0, none⟩ = bo := ⟨_, rfl⟩
                   rw [hbo] at HNP ⊢
                   clear hbo)
                | (obtain ⟨W0, hW0⟩ : ∃ W0, W0 = wr := ⟨_, rfl⟩
                   have HNP : Hid (Ext [] wr W0 ∧ ∀ W, Ext [] W0 W → NoneD W (.pointer none)) := ⟨by rw [hW0]; exact Ext.refl _ _, fun W hE => .inl rfl⟩
                   rw [← hW0]
                   clear hW0
                   obtain ⟨bo, hbo⟩ : ∃ bo : Option Addr, none = bo := ⟨_, rfl⟩
                   rw [hbo] at HNP ⊢
                   clear hbo)
              have H10 := Lib.hid (Ext.refl [] W0)
              go_wp2_with (go_at_call 19; refine (pm_num _ _).mono ?_; rintro e w' ⟨rfl, rfl⟩)
              refine (pm_Load_none bo 0 _ (HNP.out.2 _ H10.out)).mono ?_
              rintro e w11 ⟨rfl, hE11⟩
              have H11 := Lib.hid (H10.out.trans hE11)
              clear hE11
              go_wp2_with (go_at_call 19; refine (pm_num _ _).mono ?_; rintro e w' ⟨rfl, rfl⟩)
              refine (pm_Swap_none bo 0 0 0 _ (HNP.out.2 _ H11.out)).mono ?_
              rintro e w12 ⟨rfl, hE12⟩
              have H12 := Lib.hid (H11.out.trans hE12)
              clear hE12
              go_wp2_with (go_at_call 19; refine (pm_num _ _).mono ?_; rintro e w' ⟨rfl, rfl⟩)
              refine (pm_Stays_none bo 0 _ (HNP.out.2 _ H12.out)).mono ?_
              rintro e w13 ⟨rfl, hE13⟩
              have H13 := Lib.hid (H12.out.trans hE13)
              clear hE13
              go_wp2_with fail
              refine (pm_Waits_none bo _ (HNP.out.2 _ H13.out)).mono ?_
              rintro e w14 ⟨bw', rfl, hE14, _, _⟩
              have H14 := Lib.hid (H13.out.trans hE14)
              clear hE14
              have heq := eqSeq 81 #[.pointer (some ⟨bw', 0, none⟩)] w14
              go_wp2_with fail
              refine (pm_Waits_none bo _ (HNP.out.2 _ H14.out)).mono ?_
              rintro e w15 ⟨bw, rfl, hE15, hKB, hbw⟩
              have H15 := Lib.hid (And.intro (H14.out.trans hE15) hKB)
              clear hE15 hKB hbw heq
              go_wp2
              refine wpIn_wide.1 (wp_range (gf := 81) (lb := #[.pointer (some ⟨bw, 0, none⟩)]) rfl (fun args w => enters_of Try.func81 (by kernel_rfl) rfl args w)
                (waits_seq bw none 0 [] (by simp)) (fun pre x h => by obtain ⟨k, hk, _⟩ := okT_last h; exact absurd hk (Nat.not_lt_zero _)) []
                (fun mm pre W => mm = [] ∧ Ext [] w15 W) (fun _ _ => False) ?_ ?_ ?_ ?_ ?_ ?_ ?_ ?_)
              · exact fun mm pre => (Steady.const _ _).and (Steady.ext (Nat.le_refl _))
              · exact fun c => Steady.const _ _
              · rintro mm pre W ⟨_, hE⟩
                exact ⟨hE.cell H15.out.2.1 (by simp), H15.out.2.2.ext hE (NoW.nil _)⟩
              · intro j hj
                cases hj
              · exact ⟨rfl, Ext.refl _ _⟩
              · rintro l mm pre x W hl _ hok
                obtain ⟨k, hk, _⟩ := okT_last hok
                exact absurd hk (Nat.not_lt_zero _)
              · intro Dm mm xs W hDm hx hi hdD
                have H16 := Lib.hid (H15.out.1.trans hi.2)
                have HWW := Lib.hid (Ext.refl [] W)
                have HSW := Lib.hid (HST.out.ext1 (HNP.out.1.trans H16.out))
                have HDD := Lib.hid (And.intro hDm hdD)
                clear hi hx hDm hdD
                obtain ⟨sg7, sc7, tg7, tc7, wo7, wc7, hb7, hR7⟩ := HSW.out.want
                obtain ⟨k0, k1, k2⟩ := three hb7
                have HR7 := Lib.hid hR7
                clear hb7 hR7
                go_wp2_with fail
                refine (pm_is2 d lb sb D _ W HSW.out.dev HSW.out.ok HR7.out).mono ?_
                rintro e w17 ⟨rfl, hE17⟩
                have H17 := Lib.hid hE17
                clear hE17 k0 k1 k2
                go_wp2_with (go_at_call 19; refine (pm_num _ _).mono ?_; rintro e w' ⟨rfl, rfl⟩)
                refine (pm_Store_none bo 0 1 _ (HNP.out.2 _ (H16.out.trans H17.out))).mono ?_
                rintro e w18 ⟨rfl, hE18⟩
                have H18 := Lib.hid (H17.out.trans hE18)
                clear hE18
                go_wp2_with (go_at_call 19; refine (pm_num _ _).mono ?_; rintro e w' ⟨rfl, rfl⟩)
                refine (pm_Flush_none bo 0 _ (HNP.out.2 _ (H16.out.trans H18.out))).mono ?_
                rintro e w19 ⟨rfl, hE19⟩
                have H19 := Lib.hid (H18.out.trans hE19)
                clear hE19
                go_wp2_with (go_at_call 19; refine (pm_num _ _).mono ?_; rintro e w' ⟨rfl, rfl⟩)
                refine (pm_Fence_none bo _ (HNP.out.2 _ (H16.out.trans H19.out))).mono ?_
                rintro e w20 ⟨rfl, hE20⟩
                have H20 := Lib.hid (H19.out.trans hE20)
                clear hE20
                go_wp2_with (go_at_call 19; refine (pm_num _ _).mono ?_; rintro e w' ⟨rfl, rfl⟩)
                refine (pm_Evict_none bo 0 _ (HNP.out.2 _ (H16.out.trans H20.out))).mono ?_
                rintro e w21 ⟨rfl, hE21⟩
                have H21 := Lib.hid (H20.out.trans hE21)
                clear hE21
                go_wp2_with (go_at_call 19; refine (pm_num _ _).mono ?_; rintro e w' ⟨rfl, rfl⟩)
                refine (pm_Crash_none bo none 0 0 _ (HNP.out.2 _ (H16.out.trans H21.out))).mono ?_
                rintro e w22 ⟨rfl, hE22⟩
                have H22 := Lib.hid (H21.out.trans hE22)
                clear hE22
                go_wp2_with (go_at_call 19; refine (pm_num _ _).mono ?_; rintro e w' ⟨rfl, rfl⟩)
                refine (pm_State_none bo _ (HNP.out.2 _ (H16.out.trans H22.out))).mono ?_
                rintro e w23 ⟨rfl, hE23⟩
                have H23 := Lib.hid (H22.out.trans hE23)
                clear hE23
                have heqm : ∀ w, (binOp .eql 49 media0 media0).run Try.prog w = .ok (.bool true) w := fun w => by unfold media0; rw [eqMediaB]; simp
                unfold media0 at heqm
                try unfold media0
                go_wp2_with (go_at_call 19; refine (pm_num _ _).mono ?_; rintro e w' ⟨rfl, rfl⟩)
                refine (pm_Copy_none bo _ (HNP.out.2 _ (H16.out.trans H23.out))).mono ?_
                rintro e w' ⟨rfl, rfl⟩
                clear heqm
                go_wp2_with (go_at_call 19; refine (pm_num _ _).mono ?_; rintro e w' ⟨rfl, rfl⟩)
                refine (pm_Same_nn bo none _ (HNP.out.2 _ (H16.out.trans H23.out)) (.inl rfl)).mono ?_
                rintro e w' ⟨rfl, rfl⟩
                go_wp2_with (go_at_call 19; refine (pm_num _ _).mono ?_; rintro e w' ⟨rfl, rfl⟩)
                refine (pm_Same_dn bo d lb sb D _ (HST.out.dev.ext0 (HNP.out.1.trans (H16.out.trans H23.out))) (HNP.out.2 _ (H16.out.trans H23.out))).mono ?_
                rintro e w' ⟨rfl, rfl⟩
                go_wp2_with (go_at_call 19; refine (pm_num _ _).mono ?_; rintro e w' ⟨rfl, rfl⟩)
                refine (pm_Same_nd bo d lb sb D _ (HST.out.dev.ext0 (HNP.out.1.trans (H16.out.trans H23.out))) (HNP.out.2 _ (H16.out.trans H23.out))).mono ?_
                rintro e w' ⟨rfl, rfl⟩
                go_wp2_with (go_at_call 19; refine (pm_num _ _).mono ?_; rintro e w' ⟨rfl, rfl⟩)
                refine (HW.out _).mono ?_
                rintro e w30 ⟨rfl, hE30⟩
                have H30 := Lib.hid (H23.out.trans hE30)
                clear hE30
                have hsz : w.heap.size < w30.heap.size := by have := lt_of_block HST.out.res; have := (HNP.out.1.trans (H16.out.trans H30.out)).size; omega
                have hb30 := (HNP.out.1.trans (H16.out.trans H30.out)).at HST.out.res (by simp)
                have k30 := cell_of (j := 0) (v := .bool false) hb30 rfl
                have f30 := free_of hb30 0
                have HFN := Lib.hid (And.intro hb30 (And.intro (HST.out.ext.trans (HNP.out.1.trans (H16.out.trans H30.out))) (H30.out.at HDD.out.2 (by simp))))
                clear hb30 hsz
                go_wp2
                show LeavesInM _ _ _ _ _ _ _ _ _
                refine fin.out [Dm] w30 (.bool false) (fun D1 hD1 => ?_) (by simp) HFN.out.1 HFN.out.2.1 _ ?_
                · obtain rfl : D1 = Dm := by simpa using hD1
                  exact ⟨HFN.out.2.2, by have := HDD.out.1; have := (HNP.out.1.trans H15.out.1).size; have := lt_of_block HST.out.res; omega⟩
                · rfl
              · intro Dm c W hDm hi hdD
                exact hi.elim
  · have HNB := Lib.hid (pm_NewBad ln w0 (by omega))
    rcases (show ln < 1 ∨ (¬ (ln < 1) ∧ 1024 < ln) by omega) with hh | ⟨hh, hh2⟩
    all_goals
      clear hr
      go_wp2_with fail
      refine HNB.out.mono ?_
      rintro e w' ⟨rfl, rfl⟩
      clear hw0
      go_wp2_with (first
        | (go_at_call 19; refine (pm_num _ _).mono ?_; rintro e w' ⟨rfl, rfl⟩)
        | (go_at_call 13; refine (HW.out _).mono ?_; rintro e w3 ⟨rfl, hE3⟩; have hb3 := hE3.at H0.out.2 (by simp); have H3 := Lib.hid (And.intro (H0.out.1.trans hE3) hb3); have k3 := cell_of (j := 0) (v := .bool false) hb3 rfl; have f3 := free_of hb3 0; clear hE3 hb3))
      show LeavesInM _ _ _ _ _ _ _ _ _
      refine fin.out [] w3 (.bool false) (fun D hD => (by cases hD)) (by simp) H3.out.2 H3.out.1 _ ?_
      rfl
end Go.Proofs.Ytfojmjkcjdehaaa
