/- The walk of the law FibrePlays (printed by wip/mkFv.py). -/
import Derived.Test.YtfojmjkcjdehaaaFcD
import Derived.Test.YtfojmjkcjdehaaaPnW
import Derived.Deep.CutRange
namespace Go.Proofs.Ytfojmjkcjdehaaa
open Go Go.RowKit Go.Shelf
attribute [local go_sem] Oper.semAt_some

theorem NoneF.ofW {w : World} : NoneF w (.pointer none) := .inl rfl
set_option maxRecDepth 100000 in
set_option maxHeartbeats 16000000 in
theorem fb_plays (lo : Option Addr) (lc : Nat) (L0 : List Tch) (ao : Option Addr) (n cap : Nat) (A : Nat → FAct) (w : World) (hL : TcAt w w.heap.size lo L0) (hp : FActs w w.heap.size ao n A) (hl : L0.length ≤ maxLen) (hn : n ≤ maxLen) (hA : ∀ i, i < n → (A i).M.length ≤ maxLen) :
    Calls Try.prog 11 #[.slice lo L0.length lc, .slice ao n cap] w fun e w' => e = .returned (.bool true) ∧ Ext [] w w' := by
  unfold maxLen at hl hn hA
  have HW := Lib.hid fb_works
  have fin : Hid (∀ (Ds : List Nat) (W : World) (x : Value), (∀ D ∈ Ds, W.heap[D]? = some (.deferred (some [])) ∧ w.heap.size < D) → Ds.Nodup → W.heap[w.heap.size]? = some (.cells #[x] 4 (0, 0)) → Ext [] w W → ∀ tmps : Array Value, tmps.getD 4 undef = .pointer (some ⟨w.heap.size, 0, none⟩) →
      LeavesInM Fence.wide 0 Try.prog Try.f11 tmps (fun e w' => e = .returned (.bool true) ∧ Ext [] w w') (Ds.map fun D => { target := .collected D, args := #[] }) .returning (W.setCell ⟨w.heap.size, 0, none⟩ (.bool true))) := by
    intro Ds W x hD hnd hb hE tmps ht
    obtain ⟨W5, hW5⟩ : ∃ W5, W5 = W.setCell ⟨w.heap.size, 0, none⟩ (.bool true) := ⟨_, rfl⟩
    have b5 : W5.heap[w.heap.size]? = some (.cells #[.bool true] 4 (0, 0)) := by rw [hW5]; exact cell1_set hb _
    have e5 : Ext [] w W5 := by rw [hW5]; exact hE.setCell (.inr (by simp)) _
    have d5 : ∀ D ∈ Ds, W5.heap[D]? = some (.deferred (some [])) := fun D hd => by rw [hW5]; exact block_sc (show D ≠ w.heap.size by have := (hD D hd).2; omega) (hD D hd).1
    rw [← hW5]
    exact leaves_marks (v := .bool true) Ds W5 d5 hnd (fun w' hE' => ⟨results_cellb Try.results11 _ _ ⟨w.heap.size, 0, none⟩ _ (by kernel_rfl) ht (hE'.cell (cell_of (j := 0) b5 rfl) (fun hm => by have := (hD _ hm).2; simp at this)), rfl, e5.trans' hE' (fun j hj => .inr (by have := (hD j hj).2; omega))⟩)
  obtain ⟨w0, hw0⟩ : ∃ w0, w.alloc (.cells #[.bool false] 4) = w0 := ⟨_, rfl⟩
  have hE0 : Ext [] w w0 := by rw [← hw0]; exact (Ext.refl _ _).alloc _
  have hb0 : w0.heap[w.heap.size]? = some (.cells #[.bool false] 4 (0, 0)) := by rw [← hw0]; exact World.alloc_heap_new _ _
  have HF := Lib.hid (fun W (hE : Ext [] w W) => fb_few ao n cap A 40 W w.heap.size (hp.ext hE) hn hA)
  obtain ⟨c1, hc1⟩ : ∃ c1, decide ((20 : Int) < (L0.length : Int)) = c1 := ⟨_, rfl⟩
  obtain ⟨m, hm⟩ : ∃ m, L0.length = m := ⟨_, rfl⟩
  have HP := Lib.hid (And.intro hp (And.intro hA (And.intro hn (And.intro hL (And.intro hm hl)))))
  have H0 := Lib.hid (And.intro hE0 hb0)
  rw [hm] at hc1 ⊢
  clear hE0 hb0 hp hA hn hL hl hm
  refine (callsIn_wide (n := 0)).1 (callsIn_of_wp_marks Try.func11 rfl trivial ?_ rfl)
  simp only [Try.ntmps11, List.size_toArray, List.length_cons, List.length_nil, Nat.reduceAdd, Nat.reduceSub, Array.replicate_succ, Array.replicate_zero, List.push_toArray, List.append_toArray, List.nil_append, List.cons_append]
  refine wpIn_wide.2 (wp_mono (Q := NoPanic (bodyPostM Fence.wide 0 Try.prog Try.f11 fun e w' => e = .returned (.bool true) ∧ Ext [] w w')) ?_ NoPanic.out)
  cases c1 with
  | true =>
    go_wp2_with fail
    try rw [hw0]
    clear hw0
    refine (HW.out _).mono ?_
    rintro e w2 ⟨rfl, hE2⟩
    have hb2 := hE2.at H0.out.2 (by simp)
    have k2 := cell_of (j := 0) (v := .bool false) hb2 rfl
    have f2 := free_of hb2 0
    have H2 := Lib.hid (And.intro (H0.out.1.trans hE2) hb2)
    clear hE2 hb2
    go_wp2
    show LeavesInM _ _ _ _ _ _ _ _ _
    refine fin.out [] w2 (.bool false) (fun D hD => (by cases hD)) (by simp) H2.out.2 H2.out.1 _ ?_
    rfl
  | false =>
    cases hf : fewF n A 40 with
    | false =>
      rw [hf] at HF
      clear hf
      go_wp2_with fail
      try rw [hw0]
      clear hw0
      refine (HF.out _ H0.out.1).mono ?_
      rintro e w' ⟨rfl, rfl⟩
      go_wp2_with fail
      refine (HW.out _).mono ?_
      rintro e w2 ⟨rfl, hE2⟩
      have hb2 := hE2.at H0.out.2 (by simp)
      have k2 := cell_of (j := 0) (v := .bool false) hb2 rfl
      have f2 := free_of hb2 0
      have H2 := Lib.hid (And.intro (H0.out.1.trans hE2) hb2)
      clear hE2 hb2
      go_wp2
      show LeavesInM _ _ _ _ _ _ _ _ _
      refine fin.out [] w2 (.bool false) (fun D hD => (by cases hD)) (by simp) H2.out.2 H2.out.1 _ ?_
      rfl
    | true =>
      have HFW := Lib.hid (And.intro (fewF_true hf) (show m ≤ 20 by have := of_decide_eq_false hc1; omega))
      rw [hf] at HF
      clear hf
      have HN4 := Lib.hid (pm_New 4 w0 (by omega) (by omega))
      rw [show ((4 : Nat) : Int) = 4 from rfl] at HN4
      have HRN : Hid (∀ W : World, Calls Try.prog 27 #[.int .i64 4] W fun e w' => ∃ v', e = .returned v' ∧ Ext [] W w' ∧ RefAt w' v' (dvNew 4)) := fun W => rf_New 4 W (by omega) (by omega)
      go_wp2_with fail
      try rw [hw0]
      clear hw0 hc1
      refine (HF.out _ H0.out.1).mono ?_
      rintro e w' ⟨rfl, rfl⟩
      go_wp2_with fail
      refine HN4.out.mono ?_
      rintro e w1 ⟨rfl, hE1, lb, sb, hD1, hl1, hs1⟩
      obtain ⟨d, hd⟩ : ∃ d, w0.heap.size + 2 = d := ⟨_, rfl⟩
      rw [hd] at hD1 ⊢
      have hlt0 := lt_of_block H0.out.2
      have H1 := Lib.hid (And.intro hE1 (And.intro hD1 (And.intro (show w.heap.size < d by omega) (And.intro (show w.heap.size < lb by omega) (show w.heap.size < sb by omega)))))
      clear hE1 hD1 hl1 hs1 hd HN4 hlt0
      go_wp2_with fail
      refine (HRN.out _).mono ?_
      rintro e w2 ⟨v2, rfl, hE2, hR2⟩
      have hR2' := hR2
      obtain ⟨sg0, sc0, tg0, tc0, wo0, wc0, rfl, r1, r2, r3⟩ := hR2'
      obtain ⟨w3, hw3⟩ : ∃ w3, w2.alloc (.cells #[.slice (some ⟨sg0, 0, none⟩) (dvNew 4).n sc0, .slice (some ⟨tg0, 0, none⟩) (dvNew 4).n tc0, .slice wo0 (dvNew 4).W.length wc0] 33) = w3 := ⟨_, rfl⟩
      obtain ⟨g, hg⟩ : ∃ g, w2.heap.size = g := ⟨_, rfl⟩
      have hE3 : Ext [] w2 w3 := by rw [← hw3]; exact (Ext.refl _ _).alloc _
      have hb3 : w3.heap[g]? = some (.cells #[.slice (some ⟨sg0, 0, none⟩) (dvNew 4).n sc0, .slice (some ⟨tg0, 0, none⟩) (dvNew 4).n tc0, .slice wo0 (dvNew 4).W.length wc0] 33 (0, 0)) := by rw [← hw3, ← hg]; exact World.alloc_heap_new _ _
      have hX3 := H1.out.1.trans (hE2.trans hE3)
      have H3 := Lib.hid (And.intro (H0.out.1.trans hX3) (And.intro hb3 (And.intro (H1.out.2.1.ext0 (hE2.trans hE3)) (And.intro (hR2.ext0 hE3) (And.intro (hX3.at H0.out.2 (by simp)) (show w.heap.size < g by have := lt_of_block H0.out.2; have := H1.out.1.size; have := hE2.size; omega))))))
      clear hE2 hR2 r1 r2 r3 hE3 hb3 hX3 HRN
      obtain ⟨tc, htc⟩ : ∃ tc, tcheck L0 = tc := ⟨_, rfl⟩
      have HCK := Lib.hid (fun W (hE : Ext [] w W) => ts_Check w.heap.size lo lc L0 W (HP.out.2.2.2.1.ext0 hE) (by rw [HP.out.2.2.2.2.1]; have := HFW.out.2; omega))
      rw [HP.out.2.2.2.2.1, htc] at HCK
      by_cases h0 : tc = 0
      · subst h0
        have HNW := Lib.hid (fb_New w.heap.size lo lc L0 w3 (HP.out.2.2.2.1.ext0 H3.out.1) H3.out.1.size htc)
        rw [HP.out.2.2.2.2.1] at HNW
        have HTC := Lib.hid htc
        clear htc
        go_wp2_with fail
        try rw [hw3]
        try rw [hg]
        clear hw3 hg
        refine HNW.out.mono ?_
        rintro e w4 ⟨f, rfl, hF4, hE4, hf4⟩
        have H4 := Lib.hid (And.intro hF4 (And.intro hE4 (show w.heap.size < f by have := lt_of_block H3.out.2.2.2.2.1; omega)))
        clear hF4 hE4 hf4 HNW
        go_wp2_with fail
        refine (HCK.out _ (H3.out.1.trans H4.out.2.1)).mono ?_
        rintro e w5 ⟨rfl, hE5⟩
        obtain ⟨w6, hw6⟩ : ∃ w6, w5.alloc (.cells #[.slice lo m lc, .int .i64 0] 96) = w6 := ⟨_, rfl⟩
        obtain ⟨h, hh⟩ : ∃ h, w5.heap.size = h := ⟨_, rfl⟩
        have hst : FP w w6 f d lb sb h g L0 [] (dvNew 4) 20 := by
          have hE6 : Ext [] w5 w6 := by rw [← hw6]; exact (Ext.refl _ _).alloc _
          have hb6 : w6.heap[h]? = some (.cells #[.slice lo m lc, .int .i64 0] 96 (0, 0)) := by rw [← hw6, ← hh]; exact World.alloc_heap_new _ _
          have hX := H4.out.2.1.trans (hE5.trans hE6)
          have hlt := lt_of_block H3.out.2.2.2.2.1
          have h4s := H4.out.2.1.size
          have h5s := hE5.size
          refine ⟨⟨_, _, _, _, _, hb6, hX.at H3.out.2.1 (by simp), ⟨⟨H4.out.1.ext0 (hE5.trans hE6), H3.out.2.2.1.ext0 hX, dvNew_ok (by omega) (by omega), Nat.le_of_lt H1.out.2.2.1, Nat.le_of_lt H1.out.2.2.2.1, Nat.le_of_lt H1.out.2.2.2.2⟩, ⟨lo, lc, ?_, HP.out.2.2.2.1.ext0 (H3.out.1.trans hX)⟩, H3.out.2.2.2.1.ext0 hX⟩⟩, ⟨(tcheck_zero HTC.out).1, ?_, dvNew_ok (by omega) (by omega), rfl⟩, hX.at H3.out.2.2.2.2.1 (by simp), H3.out.1.trans hX, H4.out.2.2, H1.out.2.2.1, H1.out.2.2.2.1, H1.out.2.2.2.2, by omega, H3.out.2.2.2.2.2⟩
          · show _ = Value.agg #[.slice lo L0.length lc, .int .i64 0]
            rw [HP.out.2.2.2.2.1]
          · show L0.length ≤ 20
            rw [HP.out.2.2.2.2.1]
            exact HFW.out.2
        have hb6 : w6.heap[h]? = some (.cells #[.slice lo m lc, .int .i64 0] 96 (0, 0)) := by rw [← hw6, ← hh]; exact World.alloc_heap_new _ _
        have hsame := setCell_same (o := 1) (v := .int .i64 0) hb6 rfl
        have hk6 := cell_of (j := 1) (v := .int .i64 0) hb6 rfl
        have hf6 := free_of hb6 1
        have HS0 := Lib.hid hst
        clear hst hE5 hb6
        go_wp2
        try rw [hw6]
        try rw [hh]
        clear hw6 hh hsame hk6 hf6
        go_loopg [8, 12] n (fun cnt p i wr => ∃ (j f : Nat) (L dn : List Tch) (D : Dv), p = .pointer (some ⟨f, 0, none⟩) ∧ i = .int .i64 j ∧ j + cnt = n ∧ FP w wr f d lb sb h g L dn D (20 + 20 * j))
        case atStart => exact ⟨0, f, L0, [], dvNew 4, rfl, rfl, by omega, HS0.out⟩
        case round =>
          obtain ⟨j, f, L, dn, D, rfl, rfl, hj, hst⟩ := hrel
          have HST := Lib.hid hst
          clear hst
          by_cases hlt : j < n
          · obtain ⟨b, off, rfl, x0, x1, x2⟩ : ∃ b off, ao = some ⟨b, off, none⟩ ∧ w.cell? ⟨b, off + j * 2, none⟩ = some (.int .i64 (A j).what) ∧ w.cell? ⟨b, off + j * 2 + 1, none⟩ = some (.slice (A j).bo (A j).M.length (A j).cap) ∧ TcAt w w.heap.size (A j).bo (A j).M := by
              rcases HP.out.1 with h | ⟨b, off, h1, h2⟩
              · omega
              · exact ⟨b, off, h1, h2 j hlt⟩
            obtain ⟨wo', wn, wcap, wm, sg, sc, tg, tc', wwo, wwc, hn1, hm1, hbh, hbg, hFS⟩ := HST.out.fc.open
            obtain ⟨nh, ng⟩ := HST.out.fc.ne
            have hjn : j ≤ 40 := by have := HFW.out.1.2; omega
            have HACT := Lib.hid (fun W (hE : Ext [] wr W) => fb_act (A j) f d lb sb w.heap.size _ _ L dn D W (hFS.ext0 hE) (HST.out.ok.mono (by omega)) (Nat.le_trans HST.out.ext.size hE.size) (x2.ext0 (HST.out.ext.trans hE)) (HFW.out.1.1 j hlt))
            have HRD : Hid (∀ W, Ext [f, d, lb, sb] wr W → W.cell? ⟨h, 0, none⟩ = some (.slice wo' wn wcap) ∧ W.cell? ⟨h, 1, none⟩ = some (.int .i64 wm) ∧ W.cell? ⟨g, 0, none⟩ = some (.slice (some ⟨sg, 0, none⟩) D.n sc) ∧ W.cell? ⟨g, 1, none⟩ = some (.slice (some ⟨tg, 0, none⟩) D.n tc') ∧ W.cell? ⟨g, 2, none⟩ = some (.slice wwo D.W.length wwc) ∧ W.cell? ⟨b, off + j * 2, none⟩ = some (.int .i64 (A j).what) ∧ W.cell? ⟨b, off + j * 2 + 1, none⟩ = some (.slice (A j).bo (A j).M.length (A j).cap)) := fun W hE => by
              obtain ⟨q0, q1⟩ := pair' (hE.at hbh nh)
              obtain ⟨q2, q3, q4⟩ := three (hE.at hbg ng)
              have hEw := (HST.out.extD hE).1
              exact ⟨q0, q1, q2, q3, q4, hEw.cell x0 (by simp), hEw.cell x1 (by simp)⟩
            have HR : Hid (∀ W, Ext [f, d, lb, sb] wr W → Ext [f, d, lb, sb] wr W) := fun _ h => h
            have HOLD : Hid (∀ q, wr.heap.size ≤ q → q ∉ [f, d, lb, sb]) := fun q hq hm => by have := hFS.fd.four q hm; omega
            have HRN := Lib.hid HST.out.ext.size
            have HGC := Lib.hid (And.intro hbh (And.intro hbg (And.intro nh ng)))
            have hi0 : (0 : Int) ≤ (j : Int) := by omega
            have hi1 : (j : Int) < (n : Int) := by omega
            have HJ := Lib.hid (And.intro hj (And.intro hlt hjn))
            clear hj hlt hjn x0 x1 x2 hn1 hm1 hbh hbg hFS nh ng
            go_upto_region 13 with fail
            go_cut [13, 14, 15, 16] from 66 to 80 (fun s13 s14 s15 s16 wx => ∃ f' o q, s13 = .pointer (some ⟨f', 0, none⟩) ∧ s14 = .pointer (some ⟨o, 0, none⟩) ∧ s15 = .pointer (some ⟨q, 0, none⟩) ∧ s16 = .bool true ∧ AcR wr wx w.heap.size f d lb sb f' o q (actF (A j) L dn D))
            case first =>
              refine wp_region_p3 (hds3 [0, 1, 2, 3, 4, 5, 6, 7] (.three 8 (hds3 [9, 10, 11, 12, 13] (.two 14 (.tl 15 (tls3 [16, 17, 18, 19] .done)) 15 (.tl 14 (tls3 [16, 17, 18, 19] .done)))) 14 (.two 8 (hds3 [9, 10, 11, 12, 13] (.tl 15 (tls3 [16, 17, 18, 19] .done))) 15 (.tl 8 (hds3 [9, 10, 11, 12, 13] (tls3 [16, 17, 18, 19] .done)))) 15 (.two 8 (hds3 [9, 10, 11, 12, 13] (.tl 14 (tls3 [16, 17, 18, 19] .done))) 14 (.tl 8 (hds3 [9, 10, 11, 12, 13] (tls3 [16, 17, 18, 19] .done)))))) (Ext [f, d, lb, sb] wr) (by kernel_rfl) (by kernel_rfl) (fun _ d _ _ _ h => by cases d <;> exact h) (HR.out _ (Ext.refl _ _).drew) ?_
              repeat (first
                | (refine wpPl_hd3 ?_ rfl (by rfl) (fun w hSw => ?_) ?_
                   rotate_left
                   · (obtain ⟨r0, r1, r2, r3, r4, r5, r6⟩ := HRD.out _ hSw; clear hSw; go_simp; first | exact ⟨rfl, rfl⟩ | exact rfl)
                   simp only [Act.put, List.setIfInBounds_toArray, List.set_cons_zero, List.set_cons_succ]))
              obtain ⟨W0, hW0⟩ : ∃ W0, wr.drew = W0 := ⟨_, rfl⟩
              have HN0 : Hid (Ext [] wr W0 ∧ True) := ⟨by rw [← hW0]; exact (Ext.refl _ _).drew, trivial⟩
              rw [hW0]
              clear hW0
              refine wpPl_three3 ?_ ?_ ?_
              · refine wpPl_tl3 rfl (by rfl) (fun K hK => ?_)
                go_simp
                go_at_call 44
                refine (HACT.out _ HN0.out.1).mono ?_
                rintro e W1 ⟨f', v5, u5, rfl, hY1, hS5, hf5⟩
                have hS5r := hS5.rf
                obtain ⟨ao5, cp5, rfl, _⟩ := hS5r
                have hS5d := hS5.rd
                obtain ⟨sg5, sc5, tg5, tc5, wo5, wc5, rfl, _, _, _⟩ := hS5d
                obtain ⟨n5, hn5⟩ : ∃ n5, ((actF (A j) L dn D).2.1 ++ (actF (A j) L dn D).1).length = n5 := ⟨_, rfl⟩
                obtain ⟨m5, hm5⟩ : ∃ m5, (actF (A j) L dn D).2.1.length = m5 := ⟨_, rfl⟩
                rw [hn5, hm5] at hS5 ⊢
                have HN1 := Lib.hid (And.intro (HN0.out.1.wide.trans hY1) (And.intro hS5 (hf5.imp_right (Nat.le_trans HN0.out.1.size))))
                refine hK _ _ (fun _ => HR.out _ HN1.out.1) ?_
                clear hK K hY1 hS5 hf5 hn5 hm5
                try simp only [Act.put, List.setIfInBounds_toArray, List.set_cons_zero, List.set_cons_succ]
                repeat (first
                  | (refine wpPl_hd3 ?_ rfl (by rfl) (fun w hSw => ?_) ?_
                     rotate_left
                     · (clear hSw; go_simp; first | exact ⟨rfl, rfl⟩ | exact rfl)
                     simp only [Act.put, List.setIfInBounds_toArray, List.set_cons_zero, List.set_cons_succ]))
                refine wpPl_two3 ?_ ?_
                · refine wpPl_tl3 rfl (by rfl) (fun K hK => ?_)
                  go_simp
                  obtain ⟨W2, hW2⟩ : ∃ W2, W1.alloc (.cells #[.slice none 0 0, .int .i64 0] 96) = W2 := ⟨_, rfl⟩
                  obtain ⟨oa, hoa⟩ : ∃ oa, W1.heap.size = oa := ⟨_, rfl⟩
                  have hY2 : Ext [] W1 W2 := by rw [← hW2]; exact (Ext.refl _ _).alloc _
                  have hZ2 : W2.heap[oa]? = some (.cells #[.slice none 0 0, .int .i64 0] 96 (0, 0)) := by rw [← hW2, ← hoa]; exact World.alloc_heap_new _ _
                  have HN2 := Lib.hid (And.intro (HN1.out.1.then hY2) (And.intro hZ2 (show wr.heap.size ≤ oa by have := HN1.out.1.size; omega)))
                  have HF2 := Lib.hid (HN1.out.2.1.ext0 hY2)
                  try rw [hW2]
                  try rw [hoa]
                  refine hK _ _ (fun _ => HR.out _ HN2.out.1) ?_
                  clear hK K hY2 hZ2 hW2 hoa
                  try simp only [Act.put, List.setIfInBounds_toArray, List.set_cons_zero, List.set_cons_succ]
                  refine wpPl_tl3 rfl (by rfl) (fun K hK => ?_)
                  go_simp
                  obtain ⟨W3, hW3⟩ : ∃ W3, W2.alloc (.cells #[.slice none 0 0, .slice none 0 0, .slice none 0 0] 33) = W3 := ⟨_, rfl⟩
                  obtain ⟨ob, hob⟩ : ∃ ob, W2.heap.size = ob := ⟨_, rfl⟩
                  have hY3 : Ext [] W2 W3 := by rw [← hW3]; exact (Ext.refl _ _).alloc _
                  have hZ3 : W3.heap[ob]? = some (.cells #[.slice none 0 0, .slice none 0 0, .slice none 0 0] 33 (0, 0)) := by rw [← hW3, ← hob]; exact World.alloc_heap_new _ _
                  have HN3 := Lib.hid (And.intro (HN2.out.1.then hY3) (And.intro hZ3 (show wr.heap.size ≤ ob by have := HN2.out.1.size; omega)))
                  have HO3 := Lib.hid (And.intro (hY3.at HN2.out.2.1 (by simp)) HN2.out.2.2)
                  have HF3 := Lib.hid (HF2.out.ext0 hY3)
                  try rw [hW3]
                  try rw [hob]
                  refine hK _ _ (fun _ => HR.out _ HN3.out.1) ?_
                  clear hK K hY3 hZ3 hW3 hob
                  try simp only [Act.put, List.setIfInBounds_toArray, List.set_cons_zero, List.set_cons_succ]
                  have hA9 := HO3.out.1
                  have hB9 := HN3.out.2.1
                  obtain ⟨z0, z1⟩ := pair' hA9
                  obtain ⟨z2, z3, z4⟩ := three hB9
                  have f0 := free_of hA9 0
                  have f1 := free_of hA9 1
                  have f2 := free_of hB9 0
                  have f3 := free_of hB9 1
                  have f4 := free_of hB9 2
                  have hab : oa ≠ ob := fun h => by rw [h, hB9] at hA9; simp at hA9
                  have hba : ob ≠ oa := hab.symm
                  clear hA9 hB9
                  refine wpPl_tl3 rfl (by rfl) (fun K hK => ?_)
                  go_simp
                  refine hK _ _ (fun _ => HR.out _ HN3.out.1) ?_
                  clear hK K
                  try simp only [Act.put, List.setIfInBounds_toArray, List.set_cons_zero, List.set_cons_succ]
                  refine wpPl_tl3 rfl (by rfl) (fun K hK => ?_)
                  go_simp
                  refine hK _ _ (fun _ => HR.out _ ((HN3.out.1.setCell (p := ⟨oa, 0, none⟩) (.inr HO3.out.2) _).setCell (p := ⟨oa, 1, none⟩) (.inr HO3.out.2) _)) ?_
                  clear hK K
                  try simp only [Act.put, List.setIfInBounds_toArray, List.set_cons_zero, List.set_cons_succ]
                  refine wpPl_tl3 rfl (by rfl) (fun K hK => ?_)
                  go_simp
                  refine hK _ _ (fun _ => HR.out _ ((((HN3.out.1.setCell (p := ⟨oa, 0, none⟩) (.inr HO3.out.2) _).setCell (p := ⟨oa, 1, none⟩) (.inr HO3.out.2) _).setCell (p := ⟨ob, 0, none⟩) (.inr HN3.out.2.2) _).setCell (p := ⟨ob, 1, none⟩) (.inr HN3.out.2.2) _ |>.setCell (p := ⟨ob, 2, none⟩) (.inr HN3.out.2.2) _)) ?_
                  clear hK K
                  try simp only [Act.put, List.setIfInBounds_toArray, List.set_cons_zero, List.set_cons_succ]
                  refine wpPl_last3 rfl (by rfl) ?_
                  go_simp
                  have hfin := AcR.of (S := actF (A j) L dn D) HN3.out.1 HN1.out.2.2 HRN.out HF3.out HO3.out.1 HN3.out.2.1 HO3.out.2 HN3.out.2.2 rfl
                  go_wp2_with fail
                  go_meet
                  exact ⟨f', oa, ob, rfl, rfl, rfl, rfl, hfin⟩
                · refine wpPl_tl3 rfl (by rfl) (fun K hK => ?_)
                  go_simp
                  obtain ⟨W2, hW2⟩ : ∃ W2, W1.alloc (.cells #[.slice none 0 0, .slice none 0 0, .slice none 0 0] 33) = W2 := ⟨_, rfl⟩
                  obtain ⟨ob, hob⟩ : ∃ ob, W1.heap.size = ob := ⟨_, rfl⟩
                  have hY2 : Ext [] W1 W2 := by rw [← hW2]; exact (Ext.refl _ _).alloc _
                  have hZ2 : W2.heap[ob]? = some (.cells #[.slice none 0 0, .slice none 0 0, .slice none 0 0] 33 (0, 0)) := by rw [← hW2, ← hob]; exact World.alloc_heap_new _ _
                  have HN2 := Lib.hid (And.intro (HN1.out.1.then hY2) (And.intro hZ2 (show wr.heap.size ≤ ob by have := HN1.out.1.size; omega)))
                  have HF2 := Lib.hid (HN1.out.2.1.ext0 hY2)
                  try rw [hW2]
                  try rw [hob]
                  refine hK _ _ (fun _ => HR.out _ HN2.out.1) ?_
                  clear hK K hY2 hZ2 hW2 hob
                  try simp only [Act.put, List.setIfInBounds_toArray, List.set_cons_zero, List.set_cons_succ]
                  refine wpPl_tl3 rfl (by rfl) (fun K hK => ?_)
                  go_simp
                  obtain ⟨W3, hW3⟩ : ∃ W3, W2.alloc (.cells #[.slice none 0 0, .int .i64 0] 96) = W3 := ⟨_, rfl⟩
                  obtain ⟨oa, hoa⟩ : ∃ oa, W2.heap.size = oa := ⟨_, rfl⟩
                  have hY3 : Ext [] W2 W3 := by rw [← hW3]; exact (Ext.refl _ _).alloc _
                  have hZ3 : W3.heap[oa]? = some (.cells #[.slice none 0 0, .int .i64 0] 96 (0, 0)) := by rw [← hW3, ← hoa]; exact World.alloc_heap_new _ _
                  have HN3 := Lib.hid (And.intro (HN2.out.1.then hY3) (And.intro hZ3 (show wr.heap.size ≤ oa by have := HN2.out.1.size; omega)))
                  have HO3 := Lib.hid (And.intro (hY3.at HN2.out.2.1 (by simp)) HN2.out.2.2)
                  have HF3 := Lib.hid (HF2.out.ext0 hY3)
                  try rw [hW3]
                  try rw [hoa]
                  refine hK _ _ (fun _ => HR.out _ HN3.out.1) ?_
                  clear hK K hY3 hZ3 hW3 hoa
                  try simp only [Act.put, List.setIfInBounds_toArray, List.set_cons_zero, List.set_cons_succ]
                  have hA9 := HN3.out.2.1
                  have hB9 := HO3.out.1
                  obtain ⟨z0, z1⟩ := pair' hA9
                  obtain ⟨z2, z3, z4⟩ := three hB9
                  have f0 := free_of hA9 0
                  have f1 := free_of hA9 1
                  have f2 := free_of hB9 0
                  have f3 := free_of hB9 1
                  have f4 := free_of hB9 2
                  have hab : oa ≠ ob := fun h => by rw [h, hB9] at hA9; simp at hA9
                  have hba : ob ≠ oa := hab.symm
                  clear hA9 hB9
                  refine wpPl_tl3 rfl (by rfl) (fun K hK => ?_)
                  go_simp
                  refine hK _ _ (fun _ => HR.out _ HN3.out.1) ?_
                  clear hK K
                  try simp only [Act.put, List.setIfInBounds_toArray, List.set_cons_zero, List.set_cons_succ]
                  refine wpPl_tl3 rfl (by rfl) (fun K hK => ?_)
                  go_simp
                  refine hK _ _ (fun _ => HR.out _ ((HN3.out.1.setCell (p := ⟨oa, 0, none⟩) (.inr HN3.out.2.2) _).setCell (p := ⟨oa, 1, none⟩) (.inr HN3.out.2.2) _)) ?_
                  clear hK K
                  try simp only [Act.put, List.setIfInBounds_toArray, List.set_cons_zero, List.set_cons_succ]
                  refine wpPl_tl3 rfl (by rfl) (fun K hK => ?_)
                  go_simp
                  refine hK _ _ (fun _ => HR.out _ ((((HN3.out.1.setCell (p := ⟨oa, 0, none⟩) (.inr HN3.out.2.2) _).setCell (p := ⟨oa, 1, none⟩) (.inr HN3.out.2.2) _).setCell (p := ⟨ob, 0, none⟩) (.inr HO3.out.2) _).setCell (p := ⟨ob, 1, none⟩) (.inr HO3.out.2) _ |>.setCell (p := ⟨ob, 2, none⟩) (.inr HO3.out.2) _)) ?_
                  clear hK K
                  try simp only [Act.put, List.setIfInBounds_toArray, List.set_cons_zero, List.set_cons_succ]
                  refine wpPl_last3 rfl (by rfl) ?_
                  go_simp
                  have hfin := AcR.of (S := actF (A j) L dn D) HN3.out.1 HN1.out.2.2 HRN.out HF3.out HN3.out.2.1 HO3.out.1 HN3.out.2.2 HO3.out.2 rfl
                  go_wp2_with fail
                  go_meet
                  exact ⟨f', oa, ob, rfl, rfl, rfl, rfl, hfin⟩
              · refine wpPl_tl3 rfl (by rfl) (fun K hK => ?_)
                go_simp
                obtain ⟨W1, hW1⟩ : ∃ W1, W0.alloc (.cells #[.slice none 0 0, .int .i64 0] 96) = W1 := ⟨_, rfl⟩
                obtain ⟨oa, hoa⟩ : ∃ oa, W0.heap.size = oa := ⟨_, rfl⟩
                have hY1 : Ext [] W0 W1 := by rw [← hW1]; exact (Ext.refl _ _).alloc _
                have hZ1 : W1.heap[oa]? = some (.cells #[.slice none 0 0, .int .i64 0] 96 (0, 0)) := by rw [← hW1, ← hoa]; exact World.alloc_heap_new _ _
                have HN1 := Lib.hid (And.intro (HN0.out.1.then hY1) (And.intro hZ1 (show wr.heap.size ≤ oa by have := HN0.out.1.size; omega)))
                try rw [hW1]
                try rw [hoa]
                refine hK _ _ (fun _ => HR.out _ HN1.out.1.wide) ?_
                clear hK K hY1 hZ1 hW1 hoa
                try simp only [Act.put, List.setIfInBounds_toArray, List.set_cons_zero, List.set_cons_succ]
                refine wpPl_two3 ?_ ?_
                · refine wpPl_tl3 rfl (by rfl) (fun K hK => ?_)
                  go_simp
                  go_at_call 44
                  refine (HACT.out _ HN1.out.1).mono ?_
                  rintro e W2 ⟨f', v5, u5, rfl, hY2, hS5, hf5⟩
                  have hS5r := hS5.rf
                  obtain ⟨ao5, cp5, rfl, _⟩ := hS5r
                  have hS5d := hS5.rd
                  obtain ⟨sg5, sc5, tg5, tc5, wo5, wc5, rfl, _, _, _⟩ := hS5d
                  obtain ⟨n5, hn5⟩ : ∃ n5, ((actF (A j) L dn D).2.1 ++ (actF (A j) L dn D).1).length = n5 := ⟨_, rfl⟩
                  obtain ⟨m5, hm5⟩ : ∃ m5, (actF (A j) L dn D).2.1.length = m5 := ⟨_, rfl⟩
                  rw [hn5, hm5] at hS5 ⊢
                  have HN2 := Lib.hid (And.intro (HN1.out.1.wide.trans hY2) (And.intro hS5 (hf5.imp_right (Nat.le_trans HN1.out.1.size))))
                  have HOA2 := Lib.hid (And.intro (hY2.at HN1.out.2.1 (HOLD.out _ HN1.out.2.2)) HN1.out.2.2)
                  refine hK _ _ (fun _ => HR.out _ HN2.out.1) ?_
                  clear hK K hY2 hS5 hf5 hn5 hm5
                  try simp only [Act.put, List.setIfInBounds_toArray, List.set_cons_zero, List.set_cons_succ]
                  repeat (first
                    | (refine wpPl_hd3 ?_ rfl (by rfl) (fun w hSw => ?_) ?_
                       rotate_left
                       · (clear hSw; go_simp; first | exact ⟨rfl, rfl⟩ | exact rfl)
                       simp only [Act.put, List.setIfInBounds_toArray, List.set_cons_zero, List.set_cons_succ]))
                  refine wpPl_tl3 rfl (by rfl) (fun K hK => ?_)
                  go_simp
                  obtain ⟨W3, hW3⟩ : ∃ W3, W2.alloc (.cells #[.slice none 0 0, .slice none 0 0, .slice none 0 0] 33) = W3 := ⟨_, rfl⟩
                  obtain ⟨ob, hob⟩ : ∃ ob, W2.heap.size = ob := ⟨_, rfl⟩
                  have hY3 : Ext [] W2 W3 := by rw [← hW3]; exact (Ext.refl _ _).alloc _
                  have hZ3 : W3.heap[ob]? = some (.cells #[.slice none 0 0, .slice none 0 0, .slice none 0 0] 33 (0, 0)) := by rw [← hW3, ← hob]; exact World.alloc_heap_new _ _
                  have HN3 := Lib.hid (And.intro (HN2.out.1.then hY3) (And.intro hZ3 (show wr.heap.size ≤ ob by have := HN2.out.1.size; omega)))
                  have HO3 := Lib.hid (And.intro (hY3.at HOA2.out.1 (by simp)) HOA2.out.2)
                  have HF3 := Lib.hid (HN2.out.2.1.ext0 hY3)
                  try rw [hW3]
                  try rw [hob]
                  refine hK _ _ (fun _ => HR.out _ HN3.out.1) ?_
                  clear hK K hY3 hZ3 hW3 hob
                  try simp only [Act.put, List.setIfInBounds_toArray, List.set_cons_zero, List.set_cons_succ]
                  have hA9 := HO3.out.1
                  have hB9 := HN3.out.2.1
                  obtain ⟨z0, z1⟩ := pair' hA9
                  obtain ⟨z2, z3, z4⟩ := three hB9
                  have f0 := free_of hA9 0
                  have f1 := free_of hA9 1
                  have f2 := free_of hB9 0
                  have f3 := free_of hB9 1
                  have f4 := free_of hB9 2
                  have hab : oa ≠ ob := fun h => by rw [h, hB9] at hA9; simp at hA9
                  have hba : ob ≠ oa := hab.symm
                  clear hA9 hB9
                  refine wpPl_tl3 rfl (by rfl) (fun K hK => ?_)
                  go_simp
                  refine hK _ _ (fun _ => HR.out _ HN3.out.1) ?_
                  clear hK K
                  try simp only [Act.put, List.setIfInBounds_toArray, List.set_cons_zero, List.set_cons_succ]
                  refine wpPl_tl3 rfl (by rfl) (fun K hK => ?_)
                  go_simp
                  refine hK _ _ (fun _ => HR.out _ ((HN3.out.1.setCell (p := ⟨oa, 0, none⟩) (.inr HO3.out.2) _).setCell (p := ⟨oa, 1, none⟩) (.inr HO3.out.2) _)) ?_
                  clear hK K
                  try simp only [Act.put, List.setIfInBounds_toArray, List.set_cons_zero, List.set_cons_succ]
                  refine wpPl_tl3 rfl (by rfl) (fun K hK => ?_)
                  go_simp
                  refine hK _ _ (fun _ => HR.out _ ((((HN3.out.1.setCell (p := ⟨oa, 0, none⟩) (.inr HO3.out.2) _).setCell (p := ⟨oa, 1, none⟩) (.inr HO3.out.2) _).setCell (p := ⟨ob, 0, none⟩) (.inr HN3.out.2.2) _).setCell (p := ⟨ob, 1, none⟩) (.inr HN3.out.2.2) _ |>.setCell (p := ⟨ob, 2, none⟩) (.inr HN3.out.2.2) _)) ?_
                  clear hK K
                  try simp only [Act.put, List.setIfInBounds_toArray, List.set_cons_zero, List.set_cons_succ]
                  refine wpPl_last3 rfl (by rfl) ?_
                  go_simp
                  have hfin := AcR.of (S := actF (A j) L dn D) HN3.out.1 HN2.out.2.2 HRN.out HF3.out HO3.out.1 HN3.out.2.1 HO3.out.2 HN3.out.2.2 rfl
                  go_wp2_with fail
                  go_meet
                  exact ⟨f', oa, ob, rfl, rfl, rfl, rfl, hfin⟩
                · refine wpPl_tl3 rfl (by rfl) (fun K hK => ?_)
                  go_simp
                  obtain ⟨W2, hW2⟩ : ∃ W2, W1.alloc (.cells #[.slice none 0 0, .slice none 0 0, .slice none 0 0] 33) = W2 := ⟨_, rfl⟩
                  obtain ⟨ob, hob⟩ : ∃ ob, W1.heap.size = ob := ⟨_, rfl⟩
                  have hY2 : Ext [] W1 W2 := by rw [← hW2]; exact (Ext.refl _ _).alloc _
                  have hZ2 : W2.heap[ob]? = some (.cells #[.slice none 0 0, .slice none 0 0, .slice none 0 0] 33 (0, 0)) := by rw [← hW2, ← hob]; exact World.alloc_heap_new _ _
                  have HN2 := Lib.hid (And.intro (HN1.out.1.then hY2) (And.intro hZ2 (show wr.heap.size ≤ ob by have := HN1.out.1.size; omega)))
                  have HO2 := Lib.hid (And.intro (hY2.at HN1.out.2.1 (by simp)) HN1.out.2.2)
                  try rw [hW2]
                  try rw [hob]
                  refine hK _ _ (fun _ => HR.out _ HN2.out.1.wide) ?_
                  clear hK K hY2 hZ2 hW2 hob
                  try simp only [Act.put, List.setIfInBounds_toArray, List.set_cons_zero, List.set_cons_succ]
                  refine wpPl_tl3 rfl (by rfl) (fun K hK => ?_)
                  go_simp
                  go_at_call 44
                  refine (HACT.out _ HN2.out.1).mono ?_
                  rintro e W3 ⟨f', v5, u5, rfl, hY3, hS5, hf5⟩
                  have hS5r := hS5.rf
                  obtain ⟨ao5, cp5, rfl, _⟩ := hS5r
                  have hS5d := hS5.rd
                  obtain ⟨sg5, sc5, tg5, tc5, wo5, wc5, rfl, _, _, _⟩ := hS5d
                  obtain ⟨n5, hn5⟩ : ∃ n5, ((actF (A j) L dn D).2.1 ++ (actF (A j) L dn D).1).length = n5 := ⟨_, rfl⟩
                  obtain ⟨m5, hm5⟩ : ∃ m5, (actF (A j) L dn D).2.1.length = m5 := ⟨_, rfl⟩
                  rw [hn5, hm5] at hS5 ⊢
                  have HN3 := Lib.hid (And.intro (HN2.out.1.wide.trans hY3) (And.intro hS5 (hf5.imp_right (Nat.le_trans HN2.out.1.size))))
                  have HOA3 := Lib.hid (And.intro (hY3.at HO2.out.1 (HOLD.out _ HO2.out.2)) HO2.out.2)
                  have HOB3 := Lib.hid (And.intro (hY3.at HN2.out.2.1 (HOLD.out _ HN2.out.2.2)) HN2.out.2.2)
                  refine hK _ _ (fun _ => HR.out _ HN3.out.1) ?_
                  clear hK K hY3 hS5 hf5 hn5 hm5
                  try simp only [Act.put, List.setIfInBounds_toArray, List.set_cons_zero, List.set_cons_succ]
                  repeat (first
                    | (refine wpPl_hd3 ?_ rfl (by rfl) (fun w hSw => ?_) ?_
                       rotate_left
                       · (clear hSw; go_simp; first | exact ⟨rfl, rfl⟩ | exact rfl)
                       simp only [Act.put, List.setIfInBounds_toArray, List.set_cons_zero, List.set_cons_succ]))
                  have hA9 := HOA3.out.1
                  have hB9 := HOB3.out.1
                  obtain ⟨z0, z1⟩ := pair' hA9
                  obtain ⟨z2, z3, z4⟩ := three hB9
                  have f0 := free_of hA9 0
                  have f1 := free_of hA9 1
                  have f2 := free_of hB9 0
                  have f3 := free_of hB9 1
                  have f4 := free_of hB9 2
                  have hab : oa ≠ ob := fun h => by rw [h, hB9] at hA9; simp at hA9
                  have hba : ob ≠ oa := hab.symm
                  clear hA9 hB9
                  refine wpPl_tl3 rfl (by rfl) (fun K hK => ?_)
                  go_simp
                  refine hK _ _ (fun _ => HR.out _ HN3.out.1) ?_
                  clear hK K
                  try simp only [Act.put, List.setIfInBounds_toArray, List.set_cons_zero, List.set_cons_succ]
                  refine wpPl_tl3 rfl (by rfl) (fun K hK => ?_)
                  go_simp
                  refine hK _ _ (fun _ => HR.out _ ((HN3.out.1.setCell (p := ⟨oa, 0, none⟩) (.inr HOA3.out.2) _).setCell (p := ⟨oa, 1, none⟩) (.inr HOA3.out.2) _)) ?_
                  clear hK K
                  try simp only [Act.put, List.setIfInBounds_toArray, List.set_cons_zero, List.set_cons_succ]
                  refine wpPl_tl3 rfl (by rfl) (fun K hK => ?_)
                  go_simp
                  refine hK _ _ (fun _ => HR.out _ ((((HN3.out.1.setCell (p := ⟨oa, 0, none⟩) (.inr HOA3.out.2) _).setCell (p := ⟨oa, 1, none⟩) (.inr HOA3.out.2) _).setCell (p := ⟨ob, 0, none⟩) (.inr HOB3.out.2) _).setCell (p := ⟨ob, 1, none⟩) (.inr HOB3.out.2) _ |>.setCell (p := ⟨ob, 2, none⟩) (.inr HOB3.out.2) _)) ?_
                  clear hK K
                  try simp only [Act.put, List.setIfInBounds_toArray, List.set_cons_zero, List.set_cons_succ]
                  refine wpPl_last3 rfl (by rfl) ?_
                  go_simp
                  have hfin := AcR.of (S := actF (A j) L dn D) HN3.out.1 HN3.out.2.2 HRN.out HN3.out.2.1 HOA3.out.1 HOB3.out.1 HOA3.out.2 HOB3.out.2 rfl
                  go_wp2_with fail
                  go_meet
                  exact ⟨f', oa, ob, rfl, rfl, rfl, rfl, hfin⟩
              · refine wpPl_tl3 rfl (by rfl) (fun K hK => ?_)
                go_simp
                obtain ⟨W1, hW1⟩ : ∃ W1, W0.alloc (.cells #[.slice none 0 0, .slice none 0 0, .slice none 0 0] 33) = W1 := ⟨_, rfl⟩
                obtain ⟨ob, hob⟩ : ∃ ob, W0.heap.size = ob := ⟨_, rfl⟩
                have hY1 : Ext [] W0 W1 := by rw [← hW1]; exact (Ext.refl _ _).alloc _
                have hZ1 : W1.heap[ob]? = some (.cells #[.slice none 0 0, .slice none 0 0, .slice none 0 0] 33 (0, 0)) := by rw [← hW1, ← hob]; exact World.alloc_heap_new _ _
                have HN1 := Lib.hid (And.intro (HN0.out.1.then hY1) (And.intro hZ1 (show wr.heap.size ≤ ob by have := HN0.out.1.size; omega)))
                try rw [hW1]
                try rw [hob]
                refine hK _ _ (fun _ => HR.out _ HN1.out.1.wide) ?_
                clear hK K hY1 hZ1 hW1 hob
                try simp only [Act.put, List.setIfInBounds_toArray, List.set_cons_zero, List.set_cons_succ]
                refine wpPl_two3 ?_ ?_
                · refine wpPl_tl3 rfl (by rfl) (fun K hK => ?_)
                  go_simp
                  go_at_call 44
                  refine (HACT.out _ HN1.out.1).mono ?_
                  rintro e W2 ⟨f', v5, u5, rfl, hY2, hS5, hf5⟩
                  have hS5r := hS5.rf
                  obtain ⟨ao5, cp5, rfl, _⟩ := hS5r
                  have hS5d := hS5.rd
                  obtain ⟨sg5, sc5, tg5, tc5, wo5, wc5, rfl, _, _, _⟩ := hS5d
                  obtain ⟨n5, hn5⟩ : ∃ n5, ((actF (A j) L dn D).2.1 ++ (actF (A j) L dn D).1).length = n5 := ⟨_, rfl⟩
                  obtain ⟨m5, hm5⟩ : ∃ m5, (actF (A j) L dn D).2.1.length = m5 := ⟨_, rfl⟩
                  rw [hn5, hm5] at hS5 ⊢
                  have HN2 := Lib.hid (And.intro (HN1.out.1.wide.trans hY2) (And.intro hS5 (hf5.imp_right (Nat.le_trans HN1.out.1.size))))
                  have HOB2 := Lib.hid (And.intro (hY2.at HN1.out.2.1 (HOLD.out _ HN1.out.2.2)) HN1.out.2.2)
                  refine hK _ _ (fun _ => HR.out _ HN2.out.1) ?_
                  clear hK K hY2 hS5 hf5 hn5 hm5
                  try simp only [Act.put, List.setIfInBounds_toArray, List.set_cons_zero, List.set_cons_succ]
                  repeat (first
                    | (refine wpPl_hd3 ?_ rfl (by rfl) (fun w hSw => ?_) ?_
                       rotate_left
                       · (clear hSw; go_simp; first | exact ⟨rfl, rfl⟩ | exact rfl)
                       simp only [Act.put, List.setIfInBounds_toArray, List.set_cons_zero, List.set_cons_succ]))
                  refine wpPl_tl3 rfl (by rfl) (fun K hK => ?_)
                  go_simp
                  obtain ⟨W3, hW3⟩ : ∃ W3, W2.alloc (.cells #[.slice none 0 0, .int .i64 0] 96) = W3 := ⟨_, rfl⟩
                  obtain ⟨oa, hoa⟩ : ∃ oa, W2.heap.size = oa := ⟨_, rfl⟩
                  have hY3 : Ext [] W2 W3 := by rw [← hW3]; exact (Ext.refl _ _).alloc _
                  have hZ3 : W3.heap[oa]? = some (.cells #[.slice none 0 0, .int .i64 0] 96 (0, 0)) := by rw [← hW3, ← hoa]; exact World.alloc_heap_new _ _
                  have HN3 := Lib.hid (And.intro (HN2.out.1.then hY3) (And.intro hZ3 (show wr.heap.size ≤ oa by have := HN2.out.1.size; omega)))
                  have HO3 := Lib.hid (And.intro (hY3.at HOB2.out.1 (by simp)) HOB2.out.2)
                  have HF3 := Lib.hid (HN2.out.2.1.ext0 hY3)
                  try rw [hW3]
                  try rw [hoa]
                  refine hK _ _ (fun _ => HR.out _ HN3.out.1) ?_
                  clear hK K hY3 hZ3 hW3 hoa
                  try simp only [Act.put, List.setIfInBounds_toArray, List.set_cons_zero, List.set_cons_succ]
                  have hA9 := HN3.out.2.1
                  have hB9 := HO3.out.1
                  obtain ⟨z0, z1⟩ := pair' hA9
                  obtain ⟨z2, z3, z4⟩ := three hB9
                  have f0 := free_of hA9 0
                  have f1 := free_of hA9 1
                  have f2 := free_of hB9 0
                  have f3 := free_of hB9 1
                  have f4 := free_of hB9 2
                  have hab : oa ≠ ob := fun h => by rw [h, hB9] at hA9; simp at hA9
                  have hba : ob ≠ oa := hab.symm
                  clear hA9 hB9
                  refine wpPl_tl3 rfl (by rfl) (fun K hK => ?_)
                  go_simp
                  refine hK _ _ (fun _ => HR.out _ HN3.out.1) ?_
                  clear hK K
                  try simp only [Act.put, List.setIfInBounds_toArray, List.set_cons_zero, List.set_cons_succ]
                  refine wpPl_tl3 rfl (by rfl) (fun K hK => ?_)
                  go_simp
                  refine hK _ _ (fun _ => HR.out _ ((HN3.out.1.setCell (p := ⟨oa, 0, none⟩) (.inr HN3.out.2.2) _).setCell (p := ⟨oa, 1, none⟩) (.inr HN3.out.2.2) _)) ?_
                  clear hK K
                  try simp only [Act.put, List.setIfInBounds_toArray, List.set_cons_zero, List.set_cons_succ]
                  refine wpPl_tl3 rfl (by rfl) (fun K hK => ?_)
                  go_simp
                  refine hK _ _ (fun _ => HR.out _ ((((HN3.out.1.setCell (p := ⟨oa, 0, none⟩) (.inr HN3.out.2.2) _).setCell (p := ⟨oa, 1, none⟩) (.inr HN3.out.2.2) _).setCell (p := ⟨ob, 0, none⟩) (.inr HO3.out.2) _).setCell (p := ⟨ob, 1, none⟩) (.inr HO3.out.2) _ |>.setCell (p := ⟨ob, 2, none⟩) (.inr HO3.out.2) _)) ?_
                  clear hK K
                  try simp only [Act.put, List.setIfInBounds_toArray, List.set_cons_zero, List.set_cons_succ]
                  refine wpPl_last3 rfl (by rfl) ?_
                  go_simp
                  have hfin := AcR.of (S := actF (A j) L dn D) HN3.out.1 HN2.out.2.2 HRN.out HF3.out HN3.out.2.1 HO3.out.1 HN3.out.2.2 HO3.out.2 rfl
                  go_wp2_with fail
                  go_meet
                  exact ⟨f', oa, ob, rfl, rfl, rfl, rfl, hfin⟩
                · refine wpPl_tl3 rfl (by rfl) (fun K hK => ?_)
                  go_simp
                  obtain ⟨W2, hW2⟩ : ∃ W2, W1.alloc (.cells #[.slice none 0 0, .int .i64 0] 96) = W2 := ⟨_, rfl⟩
                  obtain ⟨oa, hoa⟩ : ∃ oa, W1.heap.size = oa := ⟨_, rfl⟩
                  have hY2 : Ext [] W1 W2 := by rw [← hW2]; exact (Ext.refl _ _).alloc _
                  have hZ2 : W2.heap[oa]? = some (.cells #[.slice none 0 0, .int .i64 0] 96 (0, 0)) := by rw [← hW2, ← hoa]; exact World.alloc_heap_new _ _
                  have HN2 := Lib.hid (And.intro (HN1.out.1.then hY2) (And.intro hZ2 (show wr.heap.size ≤ oa by have := HN1.out.1.size; omega)))
                  have HO2 := Lib.hid (And.intro (hY2.at HN1.out.2.1 (by simp)) HN1.out.2.2)
                  try rw [hW2]
                  try rw [hoa]
                  refine hK _ _ (fun _ => HR.out _ HN2.out.1.wide) ?_
                  clear hK K hY2 hZ2 hW2 hoa
                  try simp only [Act.put, List.setIfInBounds_toArray, List.set_cons_zero, List.set_cons_succ]
                  refine wpPl_tl3 rfl (by rfl) (fun K hK => ?_)
                  go_simp
                  go_at_call 44
                  refine (HACT.out _ HN2.out.1).mono ?_
                  rintro e W3 ⟨f', v5, u5, rfl, hY3, hS5, hf5⟩
                  have hS5r := hS5.rf
                  obtain ⟨ao5, cp5, rfl, _⟩ := hS5r
                  have hS5d := hS5.rd
                  obtain ⟨sg5, sc5, tg5, tc5, wo5, wc5, rfl, _, _, _⟩ := hS5d
                  obtain ⟨n5, hn5⟩ : ∃ n5, ((actF (A j) L dn D).2.1 ++ (actF (A j) L dn D).1).length = n5 := ⟨_, rfl⟩
                  obtain ⟨m5, hm5⟩ : ∃ m5, (actF (A j) L dn D).2.1.length = m5 := ⟨_, rfl⟩
                  rw [hn5, hm5] at hS5 ⊢
                  have HN3 := Lib.hid (And.intro (HN2.out.1.wide.trans hY3) (And.intro hS5 (hf5.imp_right (Nat.le_trans HN2.out.1.size))))
                  have HOA3 := Lib.hid (And.intro (hY3.at HN2.out.2.1 (HOLD.out _ HN2.out.2.2)) HN2.out.2.2)
                  have HOB3 := Lib.hid (And.intro (hY3.at HO2.out.1 (HOLD.out _ HO2.out.2)) HO2.out.2)
                  refine hK _ _ (fun _ => HR.out _ HN3.out.1) ?_
                  clear hK K hY3 hS5 hf5 hn5 hm5
                  try simp only [Act.put, List.setIfInBounds_toArray, List.set_cons_zero, List.set_cons_succ]
                  repeat (first
                    | (refine wpPl_hd3 ?_ rfl (by rfl) (fun w hSw => ?_) ?_
                       rotate_left
                       · (clear hSw; go_simp; first | exact ⟨rfl, rfl⟩ | exact rfl)
                       simp only [Act.put, List.setIfInBounds_toArray, List.set_cons_zero, List.set_cons_succ]))
                  have hA9 := HOA3.out.1
                  have hB9 := HOB3.out.1
                  obtain ⟨z0, z1⟩ := pair' hA9
                  obtain ⟨z2, z3, z4⟩ := three hB9
                  have f0 := free_of hA9 0
                  have f1 := free_of hA9 1
                  have f2 := free_of hB9 0
                  have f3 := free_of hB9 1
                  have f4 := free_of hB9 2
                  have hab : oa ≠ ob := fun h => by rw [h, hB9] at hA9; simp at hA9
                  have hba : ob ≠ oa := hab.symm
                  clear hA9 hB9
                  refine wpPl_tl3 rfl (by rfl) (fun K hK => ?_)
                  go_simp
                  refine hK _ _ (fun _ => HR.out _ HN3.out.1) ?_
                  clear hK K
                  try simp only [Act.put, List.setIfInBounds_toArray, List.set_cons_zero, List.set_cons_succ]
                  refine wpPl_tl3 rfl (by rfl) (fun K hK => ?_)
                  go_simp
                  refine hK _ _ (fun _ => HR.out _ ((HN3.out.1.setCell (p := ⟨oa, 0, none⟩) (.inr HOA3.out.2) _).setCell (p := ⟨oa, 1, none⟩) (.inr HOA3.out.2) _)) ?_
                  clear hK K
                  try simp only [Act.put, List.setIfInBounds_toArray, List.set_cons_zero, List.set_cons_succ]
                  refine wpPl_tl3 rfl (by rfl) (fun K hK => ?_)
                  go_simp
                  refine hK _ _ (fun _ => HR.out _ ((((HN3.out.1.setCell (p := ⟨oa, 0, none⟩) (.inr HOA3.out.2) _).setCell (p := ⟨oa, 1, none⟩) (.inr HOA3.out.2) _).setCell (p := ⟨ob, 0, none⟩) (.inr HOB3.out.2) _).setCell (p := ⟨ob, 1, none⟩) (.inr HOB3.out.2) _ |>.setCell (p := ⟨ob, 2, none⟩) (.inr HOB3.out.2) _)) ?_
                  clear hK K
                  try simp only [Act.put, List.setIfInBounds_toArray, List.set_cons_zero, List.set_cons_succ]
                  refine wpPl_last3 rfl (by rfl) ?_
                  go_simp
                  have hfin := AcR.of (S := actF (A j) L dn D) HN3.out.1 HN3.out.2.2 HRN.out HN3.out.2.1 HOA3.out.1 HOB3.out.1 HOA3.out.2 HOB3.out.2 rfl
                  go_wp2_with fail
                  go_meet
                  exact ⟨f', oa, ob, rfl, rfl, rfl, rfl, hfin⟩
            case rest =>
              obtain ⟨f', o, q, rfl, rfl, rfl, rfl, har⟩ := hcut
              obtain ⟨po, pn, pcap, pm, psg, psc, ptg, ptc, pwo, pwc, _, _, e1, e2, _⟩ := har.fc.open
              obtain ⟨p0, p1⟩ := pair' e1
              obtain ⟨p2, p3, p4⟩ := three e2
              have hgh := har.ext.at HGC.out.1 HGC.out.2.2.1
              have hgg := har.ext.at HGC.out.2.1 HGC.out.2.2.2
              obtain ⟨s0, s1⟩ := pair' hgh
              obtain ⟨s2, s3, s4⟩ := three hgg
              have f0 := free_of hgh 0
              have f1 := free_of hgh 1
              have f2 := free_of hgg 0
              have f3 := free_of hgg 1
              have f4 := free_of hgg 2
              have hab : h ≠ g := fun hq => by rw [hq, hgg] at hgh; simp at hgh
              have hba : g ≠ h := hab.symm
              have hoh : o ∉ [h, g] ∧ q ∉ [h, g] := by
                have := lt_of_block HGC.out.1
                have := lt_of_block HGC.out.2.1
                have := har.ho
                have := har.hq
                constructor <;> simp <;> omega
              have HAR := Lib.hid (And.intro har (And.intro e1 e2))
              have HRP : Hid (∀ W, Ext [h, g] wc W → W.cell? ⟨o, 0, none⟩ = some (.slice po pn pcap) ∧ W.cell? ⟨o, 1, none⟩ = some (.int .i64 pm) ∧ W.cell? ⟨q, 0, none⟩ = some (.slice (some ⟨psg, 0, none⟩) (actF (A j) L dn D).2.2.n psc) ∧ W.cell? ⟨q, 1, none⟩ = some (.slice (some ⟨ptg, 0, none⟩) (actF (A j) L dn D).2.2.n ptc) ∧ W.cell? ⟨q, 2, none⟩ = some (.slice pwo (actF (A j) L dn D).2.2.W.length pwc)) := fun W hE =>
                ⟨hE.cell p0 hoh.1, hE.cell p1 hoh.1, hE.cell p2 hoh.2, hE.cell p3 hoh.2, hE.cell p4 hoh.2⟩
              clear har e1 e2 hgh hgg p0 p1 p2 p3 p4 hoh HACT HRD HR HOLD
              go_upto_region 14 with fail
              refine wp_region_p (hds [0, 1, 2] (tls [3, 4, 5] .done)) (Ext [h, g] wc) (by kernel_rfl) (by kernel_rfl) (fun _ d _ _ _ h => by cases d <;> exact h) (Ext.refl _ _).drew ?_
              repeat (first
                | (refine wpPl_hd ?_ rfl (by rfl) (fun w hSw => ?_) ?_
                   rotate_left
                   · (obtain ⟨r0, r1, r2, r3, r4⟩ := HRP.out _ hSw; clear hSw; go_simp; first | exact ⟨rfl, rfl⟩ | exact rfl)
                   simp only [Act.put, List.setIfInBounds_toArray, List.set_cons_zero, List.set_cons_succ]))
              iterate 2 (
                refine wpPl_tl rfl (by rfl) (fun K hK => ?_)
                go_simp
                refine hK _ _ (fun _ => by refine Ext.drew ?_; (repeat (refine Ext.setCell ?_ (.inl (by simp)) _)); exact Ext.refl _ _) ?_
                clear hK K
                try simp only [Act.put, List.setIfInBounds_toArray, List.set_cons_zero, List.set_cons_succ])
              refine wpPl_last rfl (by rfl) ?_
              go_simp
              obtain ⟨W9, hW9⟩ : ∃ W9, World.drew (((((wc.setCell ⟨h, 0, none⟩ (.slice po pn pcap)).setCell ⟨h, 1, none⟩ (.int .i64 pm)).setCell ⟨g, 0, none⟩ (.slice (some ⟨psg, 0, none⟩) (actF (A j) L dn D).2.2.n psc)).setCell ⟨g, 1, none⟩ (.slice (some ⟨ptg, 0, none⟩) (actF (A j) L dn D).2.2.n ptc)).setCell ⟨g, 2, none⟩ (.slice pwo (actF (A j) L dn D).2.2.W.length pwc)) = W9 := ⟨_, rfl⟩
              have hst2 : FP w W9 f' d lb sb h g (actF (A j) L dn D).1 (actF (A j) L dn D).2.1 (actF (A j) L dn D).2.2 (20 + 20 * (j + 1)) := by
                rw [← hW9]
                exact (HST.out.step HAR.out.1 ((HST.out.ok.act (A j) (HFW.out.1.1 j HJ.out.2.1)).mono (by omega)) HAR.out.2.1 HAR.out.2.2 rfl).ext1 (Ext.refl [] _).drew
              try rw [hW9]
              clear hW9 s0 s1 s2 s3 s4 f0 f1 f2 f3 f4 hab hba
              obtain ⟨vo, vn, vcap, vm, vsg, vsc, vtg, vtc, vwo, vwc, _, _, g1, _, hFS2⟩ := hst2.fc.open
              obtain ⟨k0, k1⟩ := pair' g1
              have HIS := Lib.hid (fb_is f' w.heap.size (actF (A j) L dn D).1 (actF (A j) L dn D).2.1 _ W9 hFS2.fd.fib hFS2.rf (by have := hst2.ok.len; have := HJ.out.2.2; omega) hst2.ext.size)
              have HS2 := Lib.hid hst2
              clear hst2 g1 hFS2
              go_wp2_with fail
              refine HIS.out.mono ?_
              rintro e w7 ⟨rfl, hE7⟩
              have H7 := Lib.hid (HS2.out.ext1 hE7)
              clear hE7 k0 k1 HIS
              have HWJ : Hid (IntKind.i64.wrap ((j : Int) + 1) = ((j + 1 : Nat) : Int) ∧ wrap64 ((j : Int) + 1) = ((j + 1 : Nat) : Int)) := by
                have := wrap_succ (q := j) (m := j + 1) (by omega) (by have := HJ.out.2.2; omega)
                exact ⟨by rw [this.2]; rfl, by rw [this.1]; rfl⟩
              have HMZ : Hid ((∀ c, j + c = n → n - (j + 1) < c) ∧ j + 1 + (n - (j + 1)) = n) := by
                have := HJ.out
                exact ⟨fun c hc => by omega, by omega⟩
              go_wp2
              go_roundg (n - (j + 1))
              case measure => exact HMZ.out.1 _ HJ.out.1
              case rel => exact ⟨j + 1, f', _, _, _, rfl, by first | (rw [HWJ.out.1]) | (rw [HWJ.out.2]) | rfl, HMZ.out.2, H7.out⟩
          · have hd : decide (j < n) = false := by simpa using hlt
            have hd2 : ¬ ((j : Int) < (n : Int)) := by omega
            clear hj hlt
            go_wp2_with fail
            all_goals
              clear hd hd2
              first
                | (obtain ⟨W0, hW0⟩ : ∃ W0, wr.alloc (.cells #[.slice none 0 0, .slice none 0 0, .bool false] 109) = W0 := ⟨_, rfl⟩
                   have HNP : Hid (Ext [] wr W0 ∧ ∀ W, Ext [] W0 W → NoneF W (.pointer (some ⟨wr.heap.size, 0, none⟩))) :=
                     ⟨by rw [← hW0]; exact (Ext.refl _ _).alloc _, fun W hE => NoneF.ext (.inr ⟨_, rfl, by rw [← hW0]; exact World.alloc_heap_new _ _⟩) hE⟩
                   rw [hW0]
                   clear hW0
                   obtain ⟨bo, hbo⟩ : ∃ bo : Option Addr, some ⟨wr.heap.size, 0, none⟩ = bo := ⟨_, rfl⟩
                   rw [hbo] at HNP ⊢
                   clear hbo)
                | (obtain ⟨W0, hW0⟩ : ∃ W0, W0 = wr := ⟨_, rfl⟩
                   have HNP : Hid (Ext [] wr W0 ∧ ∀ W, Ext [] W0 W → NoneF W (.pointer none)) := ⟨by rw [hW0]; exact Ext.refl _ _, fun W hE => .inl rfl⟩
                   rw [← hW0]
                   clear hW0
                   obtain ⟨bo, hbo⟩ : ∃ bo : Option Addr, none = bo := ⟨_, rfl⟩
                   rw [hbo] at HNP ⊢
                   clear hbo)
              have HSW := Lib.hid (HST.out.ext1 HNP.out.1)
              have H10 := Lib.hid (Ext.refl [] W0)
              refine (fb_Step_nof _ _ _ (HNP.out.2 _ H10.out)).mono ?_
              rintro e w11 ⟨rfl, hE11⟩
              have H11 := Lib.hid (H10.out.trans hE11)
              clear hE11
              go_wp2_with fail
              refine (fb_Step_nod f w.heap.size L dn none _ (HSW.out.fib.ext0 (H11.out.alloc _)) (.inl rfl)).mono ?_
              rintro e w12 ⟨rfl, hE12⟩
              have H12 := Lib.hid ((H11.out.alloc _).trans hE12)
              clear hE12
              go_wp2_with fail
              refine (fb_Next_none _ _ (fb_Left_none _ _ (HNP.out.2 _ ((H12.out.alloc _).alloc _)))).mono ?_
              rintro e w13 ⟨rfl, hE13⟩
              have H13 := Lib.hid ((H12.out.alloc _).trans hE13)
              clear hE13
              go_wp2_with fail
              refine (fb_Done_none _ _ (HNP.out.2 _ (H13.out.alloc _))).mono ?_
              rintro e w14 ⟨bw', rfl, hE14, _, _⟩
              have H14 := Lib.hid ((H13.out.alloc _).trans hE14)
              clear hE14
              have heq := eqSeqT 98 #[.pointer (some ⟨bw', 0, none⟩)] w14
              go_wp2_with fail
              refine (fb_Done_none _ _ (HNP.out.2 _ H14.out)).mono ?_
              rintro e w15 ⟨bw, rfl, hE15, hKB, hbw⟩
              have H15 := Lib.hid (And.intro (H14.out.trans hE15) (hKB w.heap.size))
              clear hE15 hKB hbw heq
              go_wp2
              refine wpIn_wide.1 (wp_range (gf := 98) (lb := #[.pointer (some ⟨bw, 0, none⟩)]) rfl (fun args w => enters_of Try.func98 (by kernel_rfl) rfl args w)
                (done_seq bw w.heap.size none 0 [] (by simp)) (fun pre x h => by obtain ⟨k, hk, _⟩ := okC_last h; exact absurd hk (Nat.not_lt_zero _)) []
                (fun mm pre W => mm = [] ∧ Ext [] w15 W) (fun _ _ => False) ?_ ?_ ?_ ?_ ?_ ?_ ?_ ?_)
              · exact fun mm pre => (Steady.const _ _).and (Steady.ext (Nat.le_refl _))
              · exact fun c => Steady.const _ _
              · rintro mm pre W ⟨_, hE⟩
                exact ⟨hE.cell H15.out.2.1 (by simp), H15.out.2.2.ext0 hE⟩
              · intro j hj
                cases hj
              · exact ⟨rfl, Ext.refl _ _⟩
              · rintro l mm pre x W hl _ hok
                obtain ⟨k, hk, _⟩ := okC_last hok
                exact absurd hk (Nat.not_lt_zero _)
              · intro Dm mm xs W hDm hx hi hdD
                have H16 := Lib.hid (H15.out.1.trans hi.2)
                have HSW2 := Lib.hid (HSW.out.ext1 H16.out)
                have HDD := Lib.hid (And.intro (show w.heap.size < Dm by have := lt_of_block HST.out.res; have := (HNP.out.1.trans H15.out.1).size; omega) hdD)
                clear hi hx hDm hdD
                obtain ⟨vo, vn, vcap, vm, vsg, vsc, vtg, vtc, vwo, vwc, _, _, _, g2, hFS2⟩ := HSW2.out.fc.open
                obtain ⟨k0, k1, k2⟩ := three g2
                have HFS := Lib.hid hFS2
                clear g2 hFS2
                go_wp2_with (go_at_call 36; refine (fb_num _ _).mono ?_; rintro e w' ⟨rfl, rfl⟩)
                refine (fb_same d lb sb D _ W HFS.out.fd.dev HFS.out.fd.ok HFS.out.rd).mono ?_
                rintro e w17 ⟨rfl, hE17⟩
                have H17 := Lib.hid hE17
                clear hE17 k0 k1 k2
                go_wp2_with (go_at_call 36; refine (fb_num _ _).mono ?_; rintro e w' ⟨rfl, rfl⟩)
                refine (fb_Then_none _ none 0 0 _ (HNP.out.2 _ (H16.out.trans H17.out))).mono ?_
                rintro e w18 ⟨rfl, hE18⟩
                have H18 := Lib.hid (H17.out.trans hE18)
                clear hE18
                go_wp2_with (go_at_call 36; refine (fb_num _ _).mono ?_; rintro e w' ⟨rfl, rfl⟩)
                refine (fb_Left_none _ _ (HNP.out.2 _ (H16.out.trans H18.out))).mono ?_
                rintro e w' ⟨rfl, rfl⟩
                go_wp2_with (go_at_call 36; refine (fb_num _ _).mono ?_; rintro e w' ⟨rfl, rfl⟩)
                refine (fb_Copy_none _ _ (HNP.out.2 _ (H16.out.trans H18.out))).mono ?_
                rintro e w19 ⟨rfl, hE19⟩
                have H19 := Lib.hid (H18.out.trans hE19)
                clear hE19
                go_wp2_with (go_at_call 36; refine (fb_num _ _).mono ?_; rintro e w' ⟨rfl, rfl⟩)
                refine (fb_Same_nn _ none _ (HNP.out.2 _ (H16.out.trans H19.out)) (.inl rfl)).mono ?_
                rintro e w' ⟨rfl, rfl⟩
                go_wp2_with (go_at_call 36; refine (fb_num _ _).mono ?_; rintro e w' ⟨rfl, rfl⟩)
                refine (fb_Same_fn _ f w.heap.size L dn _ (HFS.out.fd.fib.ext0 H19.out) (HNP.out.2 _ (H16.out.trans H19.out))).mono ?_
                rintro e w' ⟨rfl, rfl⟩
                go_wp2_with (go_at_call 36; refine (fb_num _ _).mono ?_; rintro e w' ⟨rfl, rfl⟩)
                refine (fb_Same_nf _ f w.heap.size L dn _ (HNP.out.2 _ (H16.out.trans H19.out)) (HFS.out.fd.fib.ext0 H19.out)).mono ?_
                rintro e w' ⟨rfl, rfl⟩
                go_wp2_with (go_at_call 36; refine (fb_num _ _).mono ?_; rintro e w' ⟨rfl, rfl⟩)
                refine (HW.out _).mono ?_
                rintro e w20 ⟨rfl, hE20⟩
                have hb20 := (H19.out.trans hE20).at HSW2.out.res (by simp)
                have H20 := Lib.hid (And.intro (HSW2.out.ext.trans (H19.out.trans hE20)) (And.intro hb20 ((H19.out.trans hE20).at HDD.out.2 (by simp))))
                have k20 := cell_of (j := 0) (v := .bool false) hb20 rfl
                have f20 := free_of hb20 0
                clear hE20 hb20
                go_wp2
                show LeavesInM _ _ _ _ _ _ _ _ _
                refine fin.out [Dm] w20 (.bool false) (fun D hD => by rw [List.mem_singleton.1 hD]; exact ⟨H20.out.2.2, HDD.out.1⟩) (by simp) H20.out.2.1 H20.out.1 _ ?_
                rfl
              · intro Dm c W hDm hi hdD
                exact hi.elim
      · have HNB := Lib.hid (fb_New_bad w.heap.size lo lc L0 w3 (HP.out.2.2.2.1.ext0 H3.out.1) (by rw [HP.out.2.2.2.2.1]; have := HFW.out.2; omega) (by rw [htc]; exact h0))
        rw [HP.out.2.2.2.2.1, htc] at HNB
        have hne : (tc != 0) = true := by simpa using h0
        have heq : (tc == tc) = true := by simp
        clear htc h0
        go_wp2_with fail
        try rw [hw3]
        try rw [hg]
        clear hw3 hg
        refine HNB.out.mono ?_
        rintro e w4 ⟨rfl, hE4⟩
        go_wp2_with fail
        refine (HCK.out _ (H3.out.1.trans hE4)).mono ?_
        rintro e w5 ⟨rfl, hE5⟩
        have H5 := Lib.hid (hE4.trans hE5)
        clear hE4 hE5
        go_wp2_with (go_at_call 36; refine (fb_num _ _).mono ?_; rintro e w' ⟨rfl, rfl⟩)
        refine (HW.out _).mono ?_
        rintro e w6 ⟨rfl, hE6⟩
        have hb6 := (H5.out.trans hE6).at H3.out.2.2.2.2.1 (by simp)
        have H6 := Lib.hid (And.intro (H3.out.1.trans (H5.out.trans hE6)) hb6)
        have k6 := cell_of (j := 0) (v := .bool false) hb6 rfl
        have f6 := free_of hb6 0
        clear hE6 hb6
        go_wp2
        show LeavesInM _ _ _ _ _ _ _ _ _
        refine fin.out [] w6 (.bool false) (fun D hD => (by cases hD)) (by simp) H6.out.2 H6.out.1 _ ?_
        rfl
end Go.Proofs.Ytfojmjkcjdehaaa
