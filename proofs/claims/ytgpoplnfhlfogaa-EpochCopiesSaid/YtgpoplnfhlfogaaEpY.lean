/- The walk of the law EpochCopies (printed by wip/mkEpY.py). -/
import Derived.Test.YtgpoplnfhlfogaaEpX
namespace Go.Proofs.Ytgpoplnfhlfogaa
open Go Go.RowKit Go.Shelf
attribute [local go_sem] Oper.semAt_some
attribute [local go_sem ↓] wp_loadC wp_storeC exec_loadC
attribute [local go_sem] rowB_ptr rowCs_agg aggOk_ref rowOk_drew rowVal_drew rowOk_drewN rowVal_drewN

set_option maxRecDepth 100000 in
set_option maxHeartbeats 16000000 in
theorem ep_copies (ao : Option Addr) (n cap : Nat) (A : Nat → Int × Int) (x y : Int × Int) (many : Int) (w : World) (hp : Pairs w ao n A) (hn : n ≤ 9223372036854775807) :
    Calls Try.prog 11 #[.slice ao n cap, .agg #[.int .i64 x.1, .int .i64 x.2], .agg #[.int .i64 y.1, .int .i64 y.2], .int .i64 many] w fun e w' => e = .returned (.bool true) ∧ Ext [] w w' := by
  have HW := Lib.hid law14_works
  have HP := Lib.hid hp
  obtain ⟨w3, hw3⟩ : ∃ w3, ((w.alloc (.cells #[.int .i64 x.1, .int .i64 x.2] 30)).alloc (.cells #[.int .i64 y.1, .int .i64 y.2] 30)).alloc (.cells #[.int .i64 many] 3) = w3 := ⟨_, rfl⟩
  have hE3 : Ext [] w w3 := by rw [← hw3]; exact (((Ext.refl _ _).alloc _).alloc _).alloc _
  have hs3 : w3.heap.size = w.heap.size + 3 := by rw [← hw3]; simp
  obtain ⟨w0, hw0⟩ : ∃ w0, w3.alloc (.cells #[.bool false] 4) = w0 := ⟨_, rfl⟩
  have hE0 : Ext [] w3 w0 := by rw [← hw0]; exact (Ext.refl _ _).alloc _
  have hbs : w0.heap[w.heap.size]? = some (.cells #[.int .i64 x.1, .int .i64 x.2] 30 (0, 0)) ∧ w0.heap[w.heap.size + 1]? = some (.cells #[.int .i64 y.1, .int .i64 y.2] 30 (0, 0)) ∧ w0.heap[w.heap.size + 2]? = some (.cells #[.int .i64 many] 3 (0, 0)) ∧ w0.heap[w.heap.size + 3]? = some (.cells #[.bool false] 4 (0, 0)) ∧ w0.heap.size = w.heap.size + 4 := by
    rw [← hw0, ← hw3]
    exact al4_heap _ _ _ _ _ _ _ _
  have fin : Hid (∀ (Ds : List Nat) (W : World) (v0 : Value), (∀ D ∈ Ds, W.heap[D]? = some (.deferred (some [])) ∧ w.heap.size + 3 < D) → Ds.Nodup → W.heap[w.heap.size + 3]? = some (.cells #[v0] 4 (0, 0)) → Ext [] w W → ∀ tmps : Array Value, tmps.getD 8 undef = .pointer (some ⟨w.heap.size + 3, 0, none⟩) →
      LeavesInM Fence.wide 0 Try.prog Try.f11 tmps (fun e w' => e = .returned (.bool true) ∧ Ext [] w w') (Ds.map fun D => { target := .collected D, args := #[] }) .returning (W.setCell ⟨w.heap.size + 3, 0, none⟩ (.bool true))) := by
    intro Ds W v0 hD hnd hb hE tmps ht
    obtain ⟨W5, hW5⟩ : ∃ W5, W5 = W.setCell ⟨w.heap.size + 3, 0, none⟩ (.bool true) := ⟨_, rfl⟩
    have b5 : W5.heap[w.heap.size + 3]? = some (.cells #[.bool true] 4 (0, 0)) := by rw [hW5]; exact cell1_set hb _
    have e5 : Ext [] w W5 := by rw [hW5]; exact hE.setCell (.inr (by simp)) _
    have d5 : ∀ D ∈ Ds, W5.heap[D]? = some (.deferred (some [])) := fun D hd => by rw [hW5]; exact block_sc (show D ≠ w.heap.size + 3 by have := (hD D hd).2; omega) (hD D hd).1
    rw [← hW5]
    exact leaves_marks (v := .bool true) Ds W5 d5 hnd (fun w' hE' => ⟨results_cellb Try.results11 _ _ ⟨w.heap.size + 3, 0, none⟩ _ (by kernel_rfl) ht (hE'.cell (cell_of (j := 0) b5 rfl) (fun hm => by have := (hD _ hm).2; simp at this)), rfl, e5.trans' hE' (fun j hj => .inr (by have := (hD j hj).2; omega))⟩)
  have HB : Hid (∀ W, Ext [] w3 W → W.heap[w.heap.size]? = some (.cells #[.int .i64 x.1, .int .i64 x.2] 30 (0, 0)) ∧ W.heap[w.heap.size + 1]? = some (.cells #[.int .i64 y.1, .int .i64 y.2] 30 (0, 0)) ∧ W.heap[w.heap.size + 2]? = some (.cells #[.int .i64 many] 3 (0, 0))) := by
    intro W hE
    have key : ∀ k, k < w.heap.size + 3 → W.heap[k]? = w0.heap[k]? := fun k hk => (hE.block k (by omega) (by simp)).trans (hE0.block k (by omega) (by simp)).symm
    exact ⟨(key _ (by omega)).trans hbs.1, (key _ (by omega)).trans hbs.2.1, (key _ (by omega)).trans hbs.2.2.1⟩
  have H0 := Lib.hid (And.intro hE3 (And.intro hE0 (And.intro hbs.2.2.2.1 (And.intro hs3 hbs.2.2.2.2))))
  clear hp hE3 hE0 hbs hs3
  refine (callsIn_wide (n := 0)).1 (callsIn_of_wp_marks Try.func11 rfl trivial ?_ rfl)
  simp only [Try.ntmps11, List.size_toArray, List.length_cons, List.length_nil, Nat.reduceAdd, Nat.reduceSub, Array.replicate_succ, Array.replicate_zero, List.push_toArray, List.append_toArray, List.nil_append, List.cons_append]
  refine wpIn_wide.2 (wp_mono (Q := NoPanic (bodyPostM Fence.wide 0 Try.prog Try.f11 fun e w' => e = .returned (.bool true) ∧ Ext [] w w')) ?_ NoPanic.out)
  go_upto_region 1 with fail
  try rw [hw3]
  try rw [hw0]
  clear hw3 hw0
  try rw [H0.out.2.2.2.1]
  try simp only [Nat.add_assoc, Nat.reduceAdd]
  by_cases hbig : 30 < n
  · have hd2 : decide ((30 : Int) < (n : Int)) = true := by simp; omega
    go_wp2_with fail
    refine (HW.out _).mono ?_
    rintro e w2 ⟨rfl, hE2⟩
    have hb2 := hE2.at H0.out.2.2.1 (by simp)
    have q1 := cell_of hb2 (j := 0) rfl
    have q2 := free_of hb2 0
    have H2 := Lib.hid (And.intro ((H0.out.1.trans H0.out.2.1).trans hE2) hb2)
    clear hE2 hb2
    go_wp2
    show LeavesInM _ _ _ _ _ _ _ _ _
    refine fin.out [] _ (.bool false) (fun D hD => by cases hD) (by simp) H2.out.2 H2.out.1 _ ?_
    rfl
  have hd2 : decide ((30 : Int) < (n : Int)) = false := by simp; omega
  have hn30 : n ≤ 30 := by omega
  go_wp2_with fail
  refine (ep_new _).mono ?_
  rintro e W1 ⟨rfl, hE1, hc1⟩
  obtain ⟨c, hc⟩ : ∃ c, w0.heap.size + 1 = c := ⟨_, rfl⟩
  obtain ⟨m, hm⟩ : ∃ m, w0.heap.size = m := ⟨_, rfl⟩
  rw [hc, hm] at hc1
  try rw [hc]
  have hr1 := hE1.at H0.out.2.2.1 (by simp)
  go_upto_region 5 with fail
  obtain ⟨W2, hW2⟩ : ∃ W2, W1.alloc (.cells #[.int .i64 0, .int .i64 0, .int .i64 0, .int .i64 0, .int .i64 0, .int .i64 0, .int .i64 0, .int .i64 0, .int .i64 0] 92) = W2 := ⟨_, rfl⟩
  obtain ⟨g, hg⟩ : ∃ g, W1.heap.size = g := ⟨_, rfl⟩
  have hst : Hid (CSt w3 W2 c m g 0 [] 0) := by
    have hE2 : Ext [] W1 W2 := by rw [← hW2]; exact (Ext.refl _ _).alloc _
    have hcl := lt_of_block hc1.1
    have hs3 := H0.out.2.2.2.1
    have hs4 := H0.out.2.2.2.2
    refine ⟨hc1.ext hE2 (by simp) (by simp), COk.nil, ?_, by rw [hs3]; exact hE2.at hr1 (by simp), H0.out.2.1.trans (hE1.trans hE2), by omega, by omega⟩
    rw [← hW2, ← hg]
    exact World.alloc_heap_new W1 (.cells #[.int .i64 0, .int .i64 0, .int .i64 0, .int .i64 0, .int .i64 0, .int .i64 0, .int .i64 0, .int .i64 0, .int .i64 0] 92)
  try rw [hW2]
  try rw [hg]
  clear hW2 hc1 hE1 hr1 hbig hd2 hc hm hg
  go_wp2_with fail
  go_loopg [9, 11] n (fun k p i wr => ∃ (j c m : Nat) (now : Int) (l : Ents), p = .pointer (some ⟨c, 0, none⟩) ∧ i = .int .i64 j ∧ j + k = n ∧ CSt w3 wr c m g now l j)
  case atStart => exact ⟨0, c, m, 0, [], rfl, rfl, by omega, hst.out⟩
  case round =>
    clear hst
    obtain ⟨j, c, m, now, l, rfl, rfl, hjk, hst⟩ := hrel
    by_cases hlt : j < n
    · obtain ⟨b, off, rfl, k1, k2⟩ : ∃ b off, ao = some ⟨b, off, none⟩ ∧ wr.cell? ⟨b, off + j * 2, none⟩ = some (.int .i64 (A j).1) ∧ wr.cell? ⟨b, off + j * 2 + 1, none⟩ = some (.int .i64 (A j).2) := by
        rcases HP.out.ext (H0.out.1.trans hst.ext) with h | ⟨b, off, h1, h2⟩
        · omega
        · exact ⟨b, off, h1, h2 j hlt⟩
      have HACT : Hid (∀ W, Ext [] wr W → Calls Try.prog 52 #[.pointer (some ⟨c, 0, none⟩), .agg (refC now (pinN l)), .agg #[.int .i64 (A j).1, .int .i64 (A j).2]] W (ActR W c m (actN (A j).1 now l) (actL (A j).1 (A j).2 now l) (pinN (actL (A j).1 (A j).2 now l)))) :=
        fun W hE => ep_act c m now (A j).1 (A j).2 l W (hst.clk.ext hE (by simp) (by simp)) hst.ok (by have := hst.low; omega)
      have hbw : b < w.heap.size := by
        rcases HP.out with h | ⟨b', off', h1, h2⟩
        · omega
        · cases h1
          exact World.block_lt_of_cell? _ _ (h2 j hlt).1
      have HRD : Hid (∀ X, Ext [c, m] wr X → (rowOk X (.pointer (some ⟨g, 0, none⟩)) = true ∧ rowVal X (.pointer (some ⟨g, 0, none⟩)) = .agg (refC now (pinN l))) ∧ X.cell? ⟨b, off + j * 2, none⟩ = some (.int .i64 (A j).1) ∧ X.cell? ⟨b, off + j * 2 + 1, none⟩ = some (.int .i64 (A j).2)) := fun X hX => by
        obtain ⟨e1, e2, _, _⟩ := hst.cg
        have hlo := hst.lo
        have hs3 := H0.out.2.2.2.1
        exact ⟨row_of (hX.at hst.want (by simp; omega)), hX.cell k1 (by simp; omega), hX.cell k2 (by simp; omega)⟩
      have HST := Lib.hid hst
      have HAC := Lib.hid (And.intro (hst.ok.act (A j).1 (A j).2) (actN_le (A j).1 now l))
      obtain ⟨n', hn'⟩ : ∃ n', actN (A j).1 now l = n' := ⟨_, rfl⟩
      obtain ⟨l', hl'⟩ : ∃ l', actL (A j).1 (A j).2 now l = l' := ⟨_, rfl⟩
      rw [hn', hl'] at HACT HAC
      have hi0 : (0 : Int) ≤ (j : Int) := by omega
      have hi1 : (j : Int) < (n : Int) := by omega
      have hwj : wrap64 ((j : Int) + 1) = (j : Int) + 1 := IntWalk.wrap64_in _ (by omega)
      have HJ := Lib.hid (And.intro hjk (And.intro hlt hn30))
      clear hjk hlt hn30 hst hn' hl' hbw
      generalize A j = z at *
      obtain ⟨what, t⟩ := z
      dsimp only at *
      go_upto_region 8 with fail
      clear k1 k2
      refine wp_region_p4 [8, 9, 10, 12] (hds4 [0, 1, 2, 3, 4, 5] (.tl 6 (hds4 [7] (pus4 [8, 9, 10] (tls4 [11, 12] .done))))) (Ext [c, m] wr) (by kernel_rfl) (by kernel_rfl) (fun _ d _ _ _ h => by cases d <;> exact h) (Ext.refl _ _).drew ?_
      repeat (first
        | (refine wpPl_no4 rfl (by rfl) ?_; simp only [Act.put, List.setIfInBounds_toArray, List.set_cons_zero, List.set_cons_succ])
        | (refine wpPl_hd4 ?_ rfl (by rfl) (fun w hSw => ?_) ?_
           rotate_left
           · (obtain ⟨⟨g1, g2⟩, g3, g4⟩ := HRD.out _ hSw; clear hSw; go_simp; first | exact ⟨rfl, rfl⟩ | exact rfl)
           simp only [Act.put, List.setIfInBounds_toArray, List.set_cons_zero, List.set_cons_succ]))
      refine wpPl_tl4 rfl (by rfl) (fun K hK => ?_)
      go_simp
      go_at_call 52
      refine (HACT.out _ (Ext.refl _ _).drew).mono ?_
      rintro e W3 ⟨c', m', rfl, hE3, hc3, hnew⟩
      have hE3' : Ext [c, m] wr W3 := (Ext.refl _ _).drew.trans hE3
      obtain ⟨r3, _⟩ := row_of (hE3'.at HST.out.want (by have := HST.out.cg; simp; omega))
      have H3 := Lib.hid (And.intro hE3' (And.intro hc3 hnew))
      refine hK _ _ (fun _ => H3.out.1) ?_
      clear hK K hE3 hc3 hnew hE3'
      try simp only [Act.put, List.setIfInBounds_toArray, List.set_cons_zero, List.set_cons_succ]
      repeat (first
        | (refine wpPl_no4 rfl (by rfl) ?_; simp only [Act.put, List.setIfInBounds_toArray, List.set_cons_zero, List.set_cons_succ])
        | (refine wpPl_hd4 ?_ rfl (by rfl) (fun w hSw => ?_) ?_
           rotate_left
           · (clear hSw; go_simp; first | exact ⟨rfl, rfl⟩ | exact rfl)
           simp only [Act.put, List.setIfInBounds_toArray, List.set_cons_zero, List.set_cons_succ]))
      repeat (first
        | (refine wpPl_pu4 ?_ rfl (by rfl) (fun w => ?_) ?_
           rotate_left
           · (go_simp; first | exact ⟨rfl, rfl⟩ | exact rfl)
           simp only [Act.put, List.setIfInBounds_toArray, List.set_cons_zero, List.set_cons_succ]))
      refine wpPl_tl4 rfl (by rfl) (fun K hK => ?_)
      go_simp
      refine hK _ _ (fun _ => H3.out.1) ?_
      clear hK K
      try simp only [Act.put, List.setIfInBounds_toArray, List.set_cons_zero, List.set_cons_succ]
      refine wpPl_late4 rfl (by rfl) (by decide) (fun K hK => ?_)
      go_simp
      refine hK _ _ ?_
      clear hK K
      try simp only [Act.put, List.setIfInBounds_toArray, List.set_cons_zero, List.set_cons_succ]
      refine wpPl_done4 ?_
      obtain ⟨W9, hW9⟩ : ∃ W9, W3.setRow g (refC n' (pinN l')) = W9 := ⟨_, rfl⟩
      have HS9 := Lib.hid (HST.out.act' H3.out.1 H3.out.2.1 H3.out.2.2 HAC.out.1 HAC.out.2.2)
      rw [hW9] at HS9
      try rw [hW9]
      clear hW9 r3
      go_wp2
      go_roundg (n - (j + 1))
      case measure => have := HJ.out; omega
      case rel => exact ⟨j + 1, c', m', n', l', rfl, by first | (rw [hwj]; rfl) | rfl, by have := HJ.out; omega, HS9.out⟩
    · have hd : decide (j < n) = false := by simpa using hlt
      have HST := Lib.hid hst
      have HJ := Lib.hid (And.intro hjk hn30)
      clear hst hlt hjk hn30
      go_wp2_with fail
      refine (ep_Copy c m now l wr HST.out.clk).mono ?_
      rintro e W1 ⟨c1, m1, rfl, hE1, hc1, hc1l, hm1l⟩
      have H1 := Lib.hid (And.intro hE1 (And.intro hc1 (And.intro hc1l hm1l)))
      clear hE1 hc1 hc1l hm1l
      go_wp2_with fail
      refine (ep_Pinned c m now l W1 (HST.out.clk.ext H1.out.1 (by simp) (by simp))).mono ?_
      rintro e W2 ⟨B, bm, rfl, hE2, hP, hB, hbm⟩
      have H2 := Lib.hid (And.intro hE2 (And.intro hP (And.intro hB hbm)))
      have hX2 := HST.out.ext.trans (H1.out.1.trans H2.out.1)
      have HST2 := Lib.hid (HST.out.ext1 (H1.out.1.trans H2.out.1))
      obtain ⟨r1, r2⟩ := row_of HST2.out.want
      obtain ⟨x0, _, _⟩ := HB.out W2 hX2
      have k0 := cell_of (j := 0) (v := .int .i64 x.1) x0 rfl
      have k1 := cell_of (j := 1) (v := .int .i64 x.2) x0 rfl
      clear hE2 hP hB hbm hX2 x0
      go_wp2_with fail
      refine (ep_act c1 m1 now x.1 x.2 l W2 (H1.out.2.1.ext H2.out.1 (by simp) (by simp)) HST.out.ok (by have := HST.out.low; have := HJ.out; omega)).mono ?_
      rintro e W3 ⟨c2, m2, rfl, hE3, hc2, hnew2⟩
      have HO2 := Lib.hid (And.intro (HST.out.ok.act x.1 x.2) (actN_le x.1 now l))
      obtain ⟨n2, hn2⟩ : ∃ n2, actN x.1 now l = n2 := ⟨_, rfl⟩
      obtain ⟨l2, hl2⟩ : ∃ l2, actL x.1 x.2 now l = l2 := ⟨_, rfl⟩
      rw [hn2, hl2] at hc2 HO2 ⊢
      have rz := row_zero W3
      have H3 := Lib.hid (And.intro hE3 (And.intro hc2 hnew2))
      clear hE3 hc2 hnew2 hn2 hl2 k0 k1 r1 r2
      go_upto_region 12 with fail
      obtain ⟨b14, hb14⟩ : ∃ b, W3.heap.size = b := ⟨_, rfl⟩
      obtain ⟨W4, hW4⟩ : ∃ W4, (W3.alloc (.cells #[.int .i64 0, .int .i64 0, .int .i64 0, .int .i64 0, .int .i64 0, .int .i64 0, .int .i64 0, .int .i64 0, .int .i64 0] 92)).setRow b14 (refC n2 (pinN l2)) = W4 := ⟨_, rfl⟩
      have HW4 : Hid (Ext [] W3 W4 ∧ W4.heap[b14]? = some (.cells (refC n2 (pinN l2)) 92 (0, 0)) ∧ W3.heap.size = b14) := by
        rw [← hW4, ← hb14]
        exact ⟨ext_setRow ((Ext.refl _ _).alloc _) (.inr (Nat.le_refl _)) _, setRow_ref (now := 0) (F := fun _ => 0) (World.alloc_heap_new W3 (.cells #[.int .i64 0, .int .i64 0, .int .i64 0, .int .i64 0, .int .i64 0, .int .i64 0, .int .i64 0, .int .i64 0, .int .i64 0] 92)), rfl⟩
      try rw [hb14]
      try rw [hW4]
      clear rz hW4 hb14
      have HA : Hid (c < wr.heap.size ∧ m < wr.heap.size ∧ g < wr.heap.size ∧ w3.heap.size < c ∧ w3.heap.size < m ∧ w3.heap.size < g ∧ wr.heap.size ≤ c1 ∧ wr.heap.size ≤ m1 ∧ c1 < W1.heap.size ∧ m1 < W1.heap.size ∧ W1.heap.size ≤ B ∧ W1.heap.size ≤ bm ∧ W1.heap.size ≤ W2.heap.size ∧ W2.heap.size ≤ W3.heap.size ∧ wr.heap.size ≤ W1.heap.size ∧ g ≠ c ∧ g ≠ m ∧ ((c2 = c1 ∧ m2 = m1) ∨ (W2.heap.size ≤ c2 ∧ W2.heap.size ≤ m2))) :=
        ⟨lt_of_block HST.out.clk.1, HST.out.clk.2.lt, lt_of_block HST.out.want, HST.out.lo.1, HST.out.lo.2.1, HST.out.lo.2.2, H1.out.2.2.1, H1.out.2.2.2, lt_of_block H1.out.2.1.1, H1.out.2.1.2.lt, H2.out.2.2.1, H2.out.2.2.2, H2.out.1.size, H3.out.1.size, H1.out.1.size, HST.out.cg.1, HST.out.cg.2.1, H3.out.2.2⟩
      have HX4 : Hid (Ext [] w3 W4 ∧ Clk W4 c m now l ∧ W4.heap[g]? = some (.cells (refC now (pinN l)) 92 (0, 0)) ∧ W4.heap[w3.heap.size]? = some (.cells #[.bool false] 4 (0, 0)) ∧ PKB B bm l W4 ∧ Clk W4 c2 m2 n2 l2) := by
        obtain ⟨a1, a2, a3, a4, a5, a6, a7, a8, a9, a10, a11, a12, a13, a14, a15, a16, a17, a18⟩ := HA.out
        have hX : ∀ q, q < wr.heap.size → q ∉ [c1, m1] := fun q hq => by simp; omega
        have hE4 := HW4.out.1
        refine ⟨(HST2.out.ext.trans' H3.out.1 (fun q hq => .inr (by simp at hq; omega))).trans hE4, (HST2.out.clk.ext H3.out.1 (hX _ a1) (hX _ a2)).ext hE4 (by simp) (by simp), hE4.at (H3.out.1.at HST2.out.want (hX _ a3)) (by simp), hE4.at (H3.out.1.at HST2.out.res (hX _ (by omega))) (by simp), ⟨hE4.cell (H3.out.1.cell H2.out.2.1.1 (by simp; omega)) (by simp), (H2.out.2.1.2.ext H3.out.1 (by simp; omega)).ext hE4 (by simp)⟩, H3.out.2.1.ext hE4 (by simp) (by simp)⟩
      obtain ⟨r1, r2⟩ := row_of HX4.out.2.2.1
      obtain ⟨_, y0, _⟩ := HB.out W4 HX4.out.1
      have k0 := cell_of (j := 0) (v := .int .i64 y.1) y0 rfl
      have k1 := cell_of (j := 1) (v := .int .i64 y.2) y0 rfl
      clear y0
      go_wp2_with fail
      refine (ep_act c m now y.1 y.2 l W4 HX4.out.2.1 HST.out.ok (by have := HST.out.low; have := HJ.out; omega)).mono ?_
      rintro e W5 ⟨c3, m3, rfl, hE5, hc3, hnew3⟩
      have HO3 := Lib.hid (And.intro (HST.out.ok.act y.1 y.2) (actN_le y.1 now l))
      obtain ⟨n3, hn3⟩ : ∃ n3, actN y.1 now l = n3 := ⟨_, rfl⟩
      obtain ⟨l3, hl3⟩ : ∃ l3, actL y.1 y.2 now l = l3 := ⟨_, rfl⟩
      rw [hn3, hl3] at hc3 HO3 ⊢
      have rz := row_zero W5
      have H5 := Lib.hid (And.intro hE5 (And.intro hc3 hnew3))
      clear hE5 hc3 hnew3 hn3 hl3 k0 k1 r1 r2
      go_upto_region 13 with fail
      obtain ⟨b16, hb16⟩ : ∃ b, W5.heap.size = b := ⟨_, rfl⟩
      obtain ⟨W6, hW6⟩ : ∃ W6, (W5.alloc (.cells #[.int .i64 0, .int .i64 0, .int .i64 0, .int .i64 0, .int .i64 0, .int .i64 0, .int .i64 0, .int .i64 0, .int .i64 0] 92)).setRow b16 (refC n3 (pinN l3)) = W6 := ⟨_, rfl⟩
      have HW6 : Hid (Ext [] W5 W6 ∧ W6.heap[b16]? = some (.cells (refC n3 (pinN l3)) 92 (0, 0)) ∧ W5.heap.size = b16) := by
        rw [← hW6, ← hb16]
        exact ⟨ext_setRow ((Ext.refl _ _).alloc _) (.inr (Nat.le_refl _)) _, setRow_ref (now := 0) (F := fun _ => 0) (World.alloc_heap_new W5 (.cells #[.int .i64 0, .int .i64 0, .int .i64 0, .int .i64 0, .int .i64 0, .int .i64 0, .int .i64 0, .int .i64 0, .int .i64 0] 92)), rfl⟩
      try rw [hb16]
      try rw [hW6]
      clear rz hW6 hb16
      have HD : Hid (DSt w3 W6 c2 m2 c3 m3 b14 b16 g B bm now n2 n3 l l2 l3) := by
        obtain ⟨a1, a2, a3, a4, a5, a6, a7, a8, a9, a10, a11, a12, a13, a14, a15, a16, a17, a18⟩ := HA.out
        obtain ⟨d1, d2, d3⟩ := HW4.out
        obtain ⟨d4, d5, d6⟩ := HW6.out
        obtain ⟨x1, x2, x3, x4, x5, x6⟩ := HX4.out
        have hE5 := H5.out.1
        exact ⟨(x6.ext hE5 (by simp; omega) (by simp; omega)).ext d4 (by simp) (by simp), H5.out.2.1.ext d4 (by simp) (by simp), d4.at (hE5.at d2 (by simp; omega)) (by simp), d5, d4.at (hE5.at x3 (by simp; omega)) (by simp),
          ⟨d4.cell (hE5.cell x5.1 (by simp; omega)) (by simp), (x5.2.ext hE5 (by simp; omega)).ext d4 (by simp)⟩, (x1.trans' hE5 (fun q hq => .inr (by simp at hq; omega))).trans d4, d4.at (hE5.at x4 (by simp; omega)) (by simp)⟩
      have HLE : Hid (COk n2 l2 ∧ COk n3 l3 ∧ n2 ≤ 100 ∧ n3 ≤ 100 ∧ COk now l ∧ now ≤ 100) := by
        have h1 := HO2.out
        have h2 := HO3.out
        have h3 := HST.out.low
        have h4 := HJ.out
        exact ⟨h1.1, h2.1, by omega, by omega, HST.out.ok, by omega⟩
      obtain ⟨Bq, hBq⟩ : ∃ Bq, eqR n2 n3 (pinN l2) (pinN l3) = Bq := ⟨_, rfl⟩
      have HS1 : Hid (∀ V, Ext [] W6 V → Calls Try.prog 56 #[.pointer (some ⟨c3, 0, none⟩), .pointer (some ⟨c2, 0, none⟩)] V fun e w' => e = .returned (.bool Bq) ∧ Ext [] V w') := fun V hV => by
        have h := HD.out.ext1 hV
        rw [← hBq, eqR_comm, ← same_eq HLE.out.2.1 HLE.out.1]
        exact ep_Same c3 m3 c2 m2 n3 n2 l3 l2 V h.k3 h.k2 HLE.out.2.1.vals HLE.out.1.vals
      have HS2 : Hid (∀ V, Ext [] W6 V → Calls Try.prog 56 #[.pointer (some ⟨c2, 0, none⟩), .pointer (some ⟨c3, 0, none⟩)] V fun e w' => e = .returned (.bool Bq) ∧ Ext [] V w') := fun V hV => by
        have h := HD.out.ext1 hV
        rw [← hBq, ← same_eq HLE.out.1 HLE.out.2.1]
        exact ep_Same c2 m2 c3 m3 n2 n3 l2 l3 V h.k2 h.k3 HLE.out.1.vals HLE.out.2.1.vals
      have heqc := eqC n2 n3 (pinN l2) (pinN l3)
      rw [hBq] at heqc
      have hgd := egC
      have hbb : (Bq != Bq) = false := bne_self_eq_false _
      have HR13 : Hid (∀ X, Ext [] W6 X → (rowOk X (.pointer (some ⟨b14, 0, none⟩)) = true ∧ rowVal X (.pointer (some ⟨b14, 0, none⟩)) = .agg (refC n2 (pinN l2))) ∧ rowOk X (.pointer (some ⟨b16, 0, none⟩)) = true ∧ rowVal X (.pointer (some ⟨b16, 0, none⟩)) = .agg (refC n3 (pinN l3))) := fun X hX =>
        ⟨row_of (hX.at HD.out.r14 (by simp)), row_of (hX.at HD.out.r16 (by simp))⟩
      clear hBq
      refine wp_region_p4 [] (hds4 [0, 1, 2, 3, 4, 5, 6, 7, 8] (.tl 9 (hds4 [10, 11, 12, 13, 14] (.tl 15 (hds4 [16, 17, 18, 19, 20, 22, 23, 24] (.tl 21 (hds4 [25, 26, 27, 28, 29, 31, 32, 33] (.tl 30 (hds4 [34, 35] .done))))))))) (Ext [] W6) (by kernel_rfl) (by kernel_rfl) (fun _ d _ _ _ h => by cases d <;> exact h) (Ext.refl _ _).drew ?_
      repeat (first
        | (refine wpPl_no4 rfl (by rfl) ?_; simp only [Act.put, List.setIfInBounds_toArray, List.set_cons_zero, List.set_cons_succ])
        | (refine wpPl_hd4 ?_ rfl (by rfl) (fun w hSw => ?_) ?_
           rotate_left
           · (obtain ⟨⟨g1, g2⟩, g3, g4⟩ := HR13.out _ hSw; clear hSw; go_simp; first | exact ⟨rfl, rfl⟩ | exact rfl)
           simp only [Act.put, List.setIfInBounds_toArray, List.set_cons_zero, List.set_cons_succ]))
      refine wpPl_tl4 rfl (by rfl) (fun K hK => ?_)
      go_simp
      go_at_call 53
      refine (ep_is c2 m2 n2 l2 _ (HD.out.ext1 (show Ext [] W6 W6.drew from (Ext.refl _ _).drew)).k2 HLE.out.1 (by have := HLE.out; omega)).mono ?_
      rintro e V1 ⟨rfl, hY⟩
      have HV1 := Lib.hid ((show Ext [] W6 W6.drew from (Ext.refl _ _).drew).trans hY)
      refine hK _ _ (fun _ => HV1.out) ?_
      clear hK K hY
      try simp only [Act.put, List.setIfInBounds_toArray, List.set_cons_zero, List.set_cons_succ]
      repeat (first
        | (refine wpPl_no4 rfl (by rfl) ?_; simp only [Act.put, List.setIfInBounds_toArray, List.set_cons_zero, List.set_cons_succ])
        | (refine wpPl_hd4 ?_ rfl (by rfl) (fun w hSw => ?_) ?_
           rotate_left
           · (obtain ⟨⟨g1, g2⟩, g3, g4⟩ := HR13.out _ hSw; clear hSw; go_simp; first | exact ⟨rfl, rfl⟩ | exact rfl)
           simp only [Act.put, List.setIfInBounds_toArray, List.set_cons_zero, List.set_cons_succ]))
      refine wpPl_tl4 rfl (by rfl) (fun K hK => ?_)
      go_simp
      go_at_call 53
      refine (ep_is c3 m3 n3 l3 _ (HD.out.ext1 HV1.out).k3 HLE.out.2.1 (by have := HLE.out; omega)).mono ?_
      rintro e V2 ⟨rfl, hY⟩
      have HV2 := Lib.hid (HV1.out.trans hY)
      refine hK _ _ (fun _ => HV2.out) ?_
      clear hK K hY
      try simp only [Act.put, List.setIfInBounds_toArray, List.set_cons_zero, List.set_cons_succ]
      repeat (first
        | (refine wpPl_no4 rfl (by rfl) ?_; simp only [Act.put, List.setIfInBounds_toArray, List.set_cons_zero, List.set_cons_succ])
        | (refine wpPl_hd4 ?_ rfl (by rfl) (fun w hSw => ?_) ?_
           rotate_left
           · (obtain ⟨⟨g1, g2⟩, g3, g4⟩ := HR13.out _ hSw; clear hSw; go_simp; first | exact ⟨rfl, rfl⟩ | exact rfl)
           simp only [Act.put, List.setIfInBounds_toArray, List.set_cons_zero, List.set_cons_succ]))
      refine wpPl_tl4 rfl (by rfl) (fun K hK => ?_)
      go_simp
      go_at_call 56
      refine (HS1.out _ HV2.out).mono ?_
      rintro e V3 ⟨rfl, hY⟩
      have HV3 := Lib.hid (HV2.out.trans hY)
      refine hK _ _ (fun _ => HV3.out) ?_
      clear hK K hY
      try simp only [Act.put, List.setIfInBounds_toArray, List.set_cons_zero, List.set_cons_succ]
      repeat (first
        | (refine wpPl_no4 rfl (by rfl) ?_; simp only [Act.put, List.setIfInBounds_toArray, List.set_cons_zero, List.set_cons_succ])
        | (refine wpPl_hd4 ?_ rfl (by rfl) (fun w hSw => ?_) ?_
           rotate_left
           · (obtain ⟨⟨g1, g2⟩, g3, g4⟩ := HR13.out _ hSw; clear hSw; go_simp; first | exact ⟨rfl, rfl⟩ | exact rfl)
           simp only [Act.put, List.setIfInBounds_toArray, List.set_cons_zero, List.set_cons_succ]))
      refine wpPl_tl4 rfl (by rfl) (fun K hK => ?_)
      go_simp
      go_at_call 56
      refine (HS2.out _ HV3.out).mono ?_
      rintro e V4 ⟨rfl, hY⟩
      have HV4 := Lib.hid (HV3.out.trans hY)
      refine hK _ _ (fun _ => HV4.out) ?_
      clear hK K hY
      try simp only [Act.put, List.setIfInBounds_toArray, List.set_cons_zero, List.set_cons_succ]
      repeat (first
        | (refine wpPl_no4 rfl (by rfl) ?_; simp only [Act.put, List.setIfInBounds_toArray, List.set_cons_zero, List.set_cons_succ])
        | (refine wpPl_hd4 ?_ rfl (by rfl) (fun w hSw => ?_) ?_
           rotate_left
           · (obtain ⟨⟨g1, g2⟩, g3, g4⟩ := HR13.out _ hSw; clear hSw; go_simp; first | exact ⟨rfl, rfl⟩ | exact rfl)
           simp only [Act.put, List.setIfInBounds_toArray, List.set_cons_zero, List.set_cons_succ]))
      refine wpPl_done4 ?_
      have HD4 := Lib.hid (HD.out.ext1 HV4.out)
      clear HR13 heqc hgd hbb
      obtain ⟨r1, r2⟩ := row_of HD4.out.want
      go_wp2_with fail
      refine (rf_Pinned now l V4).mono ?_
      rintro e V5 ⟨po, pcap, rfl, hint, hE5p, hpo⟩
      have hok := HLE.out.2.2.2.2.1
      have hNl : (refP l 8).length = l.length := by rw [← sortK_ref hok, sortK_len]
      obtain ⟨N, hN⟩ : ∃ N, (refP l 8).length = N := ⟨_, rfl⟩
      have hN8 : N ≤ 8 := by rw [← hN]; exact refP_len l 8
      rw [hN] at hNl ⊢
      have HNL := Lib.hid (And.intro hN (And.intro hNl hN8))
      have HD5 := Lib.hid (HD4.out.ext1 hE5p)
      have HIN := Lib.hid (And.intro hint hpo)
      clear hNl hN hN8 hok hint hpo hE5p r1 r2
      go_wp2
      obtain ⟨W8, hW8⟩ : ∃ W8, (V5.alloc (.cells #[.slice po N pcap] 43)).alloc (.cells #[.int .i64 0] 3) = W8 := ⟨_, rfl⟩
      obtain ⟨hb18, hb19, hs8⟩ := al2_heap (w := V5) #[.slice po N pcap] #[.int .i64 0] 43 3
      obtain ⟨b18, hz18⟩ : ∃ b18, V5.heap.size = b18 := ⟨_, rfl⟩
      obtain ⟨b19, hz19⟩ : ∃ b19, b18 + 1 = b19 := ⟨_, rfl⟩
      rw [hW8, hz18] at hb18 hb19
      rw [hz19] at hb19
      have hE8 : Ext [] V5 W8 := by rw [← hW8]; exact ((Ext.refl _ _).alloc _).alloc _
      have HD8 := Lib.hid (HD5.out.ext1 hE8)
      have H8 := Lib.hid (And.intro hb18 (And.intro hb19 (And.intro (HIN.out.1.ext hE8 (fun p _ => by simp)) (And.intro (show b18 < b19 by omega) (show ∀ p, po = some p → p.block < b19 from fun p hp => by have := (HIN.out.2 p hp).2; omega)))))
      have HBL : Hid (g < b19 ∧ B < b19 ∧ bm < b19 ∧ w3.heap.size < b19 ∧ b19 < W8.heap.size) := by
        have h1 := lt_of_block HD5.out.want
        have h2 := World.block_lt_of_cell? _ _ HD5.out.seq.1
        have h3 := HD5.out.seq.2.lt
        have h4 := lt_of_block HD5.out.res
        have h5 := lt_of_block hb19
        dsimp only at h2
        exact ⟨by omega, by omega, by omega, by omega, by omega⟩
      have HM8 := Lib.hid ((HB.out W8 HD8.out.ext).2.2)
      try rw [hW8]
      try rw [hz18]
      try rw [hz19]
      clear hb18 hb19 hs8 hE8 hW8 hz18 hz19
      have hok := HLE.out.2.2.2.2.1
      have hl8 : l.length ≤ 8 := by have := HNL.out.2; omega
      have hs3 := H0.out.2.2.2.1
      refine wpIn_wide.1 (wp_range (gf := 96) (lb := #[.pointer (some ⟨B, 0, none⟩)]) rfl (fun args w => enters_of Try.func96 (by kernel_rfl) rfl args w)
        (pinned_seq B bm l (by omega) hok.wf) (fun pre x h => by obtain ⟨k, _, _, rfl⟩ := okP_last h; rfl) [b19]
        (CntGo W8 b19 3 many) (CntEnd W8 b19 3 N 2 many) ?_ ?_ ?_ ?_ ?_ ?_ ?_ ?_)
      · exact fun mm pre => CntGo.steady (Nat.le_refl _) mm pre
      · exact CntEnd.steady (Nat.le_refl _)
      · rintro mm pre W' ⟨_, hE, _⟩
        have h := HD8.out.seq
        have := HBL.out
        exact ⟨hE.cell h.1 (by simp; omega), h.2.ext hE (by simp; omega)⟩
      · intro z hz
        simp at hz
        subst hz
        exact lt_of_block H8.out.2.1
      · exact CntGo.start H8.out.2.1
      · rintro lr mm pre z W' hlr hi hokp
        obtain ⟨k, hk, hpre, rfl⟩ := okP_last hokp
        have hpl : pre.length = k := by rw [hpre, encP_len _ _ (by omega)]
        rw [sortK_ref hok]
        obtain ⟨p, hp⟩ : ∃ p, (refP l 8).getD k 0 = p := ⟨_, rfl⟩
        have hmem : p ∈ keysOf l := by
          rw [← hp, ← sortK_ref hok]
          exact (sortK_perm l).mem_iff.1 (by rw [List.getD_eq_getElem?_getD, List.getElem?_eq_getElem (by rw [sortK_len]; exact hk)]; exact List.getElem_mem _)
        rw [hp]
        rcases hok.lk p with ⟨h1, _⟩ | ⟨q, hq8, hqp, hlq, hp0, hp1⟩
        · exact absurd hmem ((look_none l p).1 h1)
        subst hqp
        unfold pairV
        rw [hlq]
        simp only [Option.getD_some]
        have HI := Lib.hid (And.intro hi (And.intro hpl (And.intro hk (And.intro hp (And.intro hp0 hp1)))))
        clear hi hpl hk hokp hpre hp hlr hmem hlq hp0 hp1
        intro K hK
        gi_wp2
        refine hK _ _ (Ext.refl [] _) ?_
        intro X6 hC
        clear hK K
        have hi6 := CntGo.steady (Nat.le_refl _) mm pre _ _ HI.out.1 hC
        obtain ⟨rfl, hE6, hb6, _⟩ := id hi6
        have hbl := HBL.out
        rw [HI.out.2.1] at hb6
        have q0 := cell_of (j := 0) (v := .int .i64 k) hb6 rfl
        have q1 := free_of hb6 0
        have k8 := hE6.cell (cell_of (j := 0) (v := .slice po N pcap) H8.out.1 rfl) (by have := H8.out.2.2.2.1; simp; omega)
        have k7 := hE6.cell (cell_of (j := 0) (v := .int .i64 many) HM8.out rfl) (by simp; omega)
        have hkN : k < N := by have := HI.out.2.2.1; have := HNL.out.2.1; omega
        obtain ⟨gi, off, e1, e2⟩ := H8.out.2.2.1 k (by have := HNL.out.1; omega)
        rw [HI.out.2.2.2.1] at e2
        have e3 := hE6.cell e2 (by have := H8.out.2.2.2.2 _ e1; dsimp only at this; simp; omega)
        have p1 := cell_of (j := 1 + q) (hE6.at HD8.out.want (by simp; omega)) (refC_get now (pinN l) q hq8)
        have hk0 : (0 : Int) ≤ (k : Int) := by omega
        have hkI : (k : Int) < (N : Int) := by omega
        have hge : ¬ ((N : Int) ≤ (k : Int)) := by omega
        have hq0 : (0 : Int) ≤ (q : Int) := by omega
        have hq8' : (q : Int) < 8 := by omega
        have hne0 : ((q : Int) != (q : Int)) = false := bne_self_eq_false _
        have hne1 : (pinN l q - 1 != pinN l q - 1) = false := bne_self_eq_false _
        have hwp : wrap64 (pinN l q - 1) = pinN l q - 1 := IntWalk.wrap64_in _ (by have := HI.out.2.2.2.2; have := HLE.out.2.2.2.2.2; omega)
        have hwk : wrap64 ((k : Int) + 1) = (k : Int) + 1 := IntWalk.wrap64_in _ (by have := HNL.out.2.2; omega)
        have H9 := Lib.hid (And.intro hi6 hkN)
        have hn9 : ¬ (w.heap.size + 1 + 1 = b19) := by omega
        have hn10 : ¬ (w.heap.size + 2 = b19) := by omega
        have k7' : X6.cell? ⟨w.heap.size + 2, 0, none⟩ = some (.int .i64 many) := k7
        subst e1
        clear hi6 hE6 hb6 hC hkN e2 hok hl8 hbl hs3
        iterate 76 (first | go_values | gi_guarded | gi_step | gi_upon)
        clear hne0 hne1 hwp hk0 hkI hge hq0 hq8' p1 e3 k8 hd
        by_cases hend : many ≤ (k : Int) + 1
        · gi_wp2
          exact ⟨(Ext.refl _ X6).setCell (.inl (by simp)) _, by first | exact CntGo.stop H9.out.1 HI.out.2.1 hend H9.out.2 | (rw [hwk]; exact CntGo.stop H9.out.1 HI.out.2.1 hend H9.out.2)⟩
        · gi_wp2
          exact ⟨(Ext.refl _ X6).setCell (.inl (by simp)) _, by first | exact CntGo.step H9.out.1 HI.out.2.1 (by omega) | (rw [hwk]; exact CntGo.step H9.out.1 HI.out.2.1 (by omega))⟩
      all_goals
        first
          | (rintro D mm xs W hD hx hgo hdD
             have HV := Lib.hid (hgo.done (m := N) (by rw [show xs = _ from hx, encP_len _ _ (Nat.le_refl _)]; exact HNL.out.2.1.symm))
             clear hx hgo)
          | (rintro D cc W hD hce hdD
             obtain ⟨rfl, hcd⟩ := hce.done
             have HV := Lib.hid hcd
             clear hce hcd
             refine wpIn_exit ?_)
        obtain ⟨v, hE, hnb, hv⟩ := HV.out
        have hbl := HBL.out
        have k6 := cell_of (j := 0) (v := .int .i64 v) hnb rfl
        have k5 := hE.cell (cell_of (j := 0) (v := .slice po N pcap) H8.out.1 rfl) (by have := H8.out.2.2.2.1; simp; omega)
        have k7 := hE.cell (cell_of (j := 0) (v := .int .i64 many) HM8.out rfl) (by simp; omega)
        have hres := hE.at HD8.out.res (by simp; omega)
        have hEw : Ext [] w W := (H0.out.1.trans HD8.out.ext).trans' hE (fun q hq => .inr (by simp at hq; omega))
        have hvb : ((v : Int) == min (N : Int) (max 1 many)) = true := by simpa using hv
        have HZ := Lib.hid (And.intro hres (And.intro hEw (And.intro hdD (show w.heap.size + 3 < D by omega))))
        clear hE hnb hv hres hEw hdD hD HV hbl hok hl8 hd
        go_wp2_with fail
        refine (HW.out _).mono ?_
        rintro e w18 ⟨rfl, hE18⟩
        have hb18 := hE18.at HZ.out.1 (by simp)
        rw [hs3] at hb18
        have k18 := cell_of (j := 0) (v := .bool false) hb18 rfl
        have f18 := free_of hb18 0
        have H18 := Lib.hid (And.intro (HZ.out.2.1.trans hE18) (And.intro hb18 (hE18.at HZ.out.2.2.1 (by simp))))
        clear hE18 hb18
        go_wp2
        show LeavesInM _ _ _ _ _ _ _ _ _
        refine fin.out [D] w18 (.bool false) (fun D1 hD1 => ?_) (by simp) H18.out.2.1 H18.out.1 _ ?_
        · obtain rfl : D1 = D := by simpa using hD1
          exact ⟨H18.out.2.2, HZ.out.2.2.2⟩
        · rfl
end Go.Proofs.Ytgpoplnfhlfogaa
