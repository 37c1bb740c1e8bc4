/- The law's is: a clock stands as the document's (printed by wip/mkEpV.py). -/
import Derived.Test.YtgpoplnfhlfogaaEpU
namespace Go.Proofs.Ytgpoplnfhlfogaa
open Go Go.RowKit Go.Shelf
attribute [local go_sem] Oper.semAt_some
attribute [local go_sem ↓] wp_loadC wp_storeC
attribute [local go_sem] rowB_ptr rowCs_agg aggOk_ref rowOk_drew rowVal_drew rowOk_drewN rowVal_drewN

/-- what holds behind the document's list -/
structure IsSt (W wr : World) (c m b0 rb b8 b9 : Nat) (now : Int) (l : Ents) (ao : Option Addr) (N cap : Nat) : Prop where
  ext : Ext [] W wr
  blk : wr.heap[b0]? = some (.cells (refC now (pinN l)) 92 (0, 0))
  res : wr.heap[rb]? = some (.cells #[.bool false] 4 (0, 0))
  clk : Clk wr c m now l
  row : wr.heap[b8]? = some (.cells #[.slice ao N cap] 43 (0, 0))
  ints : IntsAt wr ao (refP l 8)
  lo : c < b9 ∧ m < b9 ∧ b0 < b9 ∧ rb < b9 ∧ b8 < b9 ∧ W.heap.size ≤ b9 ∧ ∀ p, ao = some p → p.block < b9
theorem IsSt.extk {W wr w' : World} {c m b0 rb b8 b9 N cap : Nat} {now : Int} {l : Ents} {ao : Option Addr} {k : List Nat} (h : IsSt W wr c m b0 rb b8 b9 now l ao N cap) (hE : Ext k wr w') (hk : ∀ x ∈ k, b9 ≤ x) : IsSt W w' c m b0 rb b8 b9 now l ao N cap := by
  obtain ⟨h1, h2, h3, h4, h5, h6, h7⟩ := h
  have hn : ∀ x, x < b9 → x ∉ k := fun x hx hm => by have := hk x hm; omega
  exact ⟨h1.trans' hE (fun x hx => .inr (by have := hk x hx; omega)), hE.at h2 (hn _ h7.2.2.1), hE.at h3 (hn _ h7.2.2.2.1), h4.ext hE (hn _ h7.1) (hn _ h7.2.1), hE.at h5 (hn _ h7.2.2.2.2.1), h6.ext hE (fun p hp => hn _ (h7.2.2.2.2.2.2 p hp)), h7⟩
theorem IsSt.ext1 {W wr w' : World} {c m b0 rb b8 b9 N cap : Nat} {now : Int} {l : Ents} {ao : Option Addr} (h : IsSt W wr c m b0 rb b8 b9 now l ao N cap) (hE : Ext [] wr w') : IsSt W w' c m b0 rb b8 b9 now l ao N cap := h.extk hE (fun x hx => by cases hx)

set_option maxRecDepth 100000 in
set_option maxHeartbeats 8000000 in
theorem ep_is (c m : Nat) (now : Int) (l : Ents) (w : World) (h : Clk w c m now l) (hok : COk now l) (hle : now ≤ 1073741824) :
    Calls Try.prog 53 #[.pointer (some ⟨c, 0, none⟩), .agg (refC now (pinN l))] w fun e w' => e = .returned (.bool true) ∧ Ext [] w w' := by
  obtain ⟨W, hW⟩ : ∃ W, (w.alloc (.cells (refC now (pinN l)) 92)).alloc (.cells #[.bool false] 4) = W := ⟨_, rfl⟩
  obtain ⟨hb0, hb1, _⟩ := al2_heap (w := w) (refC now (pinN l)) #[.bool false] 92 4
  rw [hW] at hb0 hb1
  obtain ⟨b0, hz0⟩ : ∃ b0, w.heap.size = b0 := ⟨_, rfl⟩
  obtain ⟨rb, hz1⟩ : ∃ rb, b0 + 1 = rb := ⟨_, rfl⟩
  rw [hz0] at hb0 hb1
  rw [hz1] at hb1
  have hE : Ext [] w W := by rw [← hW]; exact ((Ext.refl _ _).alloc _).alloc _
  have hclk := h.ext hE (by simp) (by simp)
  have H := Lib.hid (And.intro hE (And.intro hb0 (And.intro hb1 (And.intro hclk (And.intro hok (And.intro hle (And.intro hz0 hz1)))))))
  clear hE hb0 hb1 hclk hok hle h
  refine (callsIn_wide (n := 0)).1 (callsIn_of_wp_marks Try.func53 rfl trivial ?_ rfl)
  simp only [Try.ntmps53, List.size_toArray, List.length_cons, List.length_nil, Nat.reduceAdd, Nat.reduceSub, Array.replicate_succ, Array.replicate_zero, List.push_toArray, List.append_toArray, List.nil_append, List.cons_append]
  refine wpIn_wide.2 (wp_mono (Q := NoPanic (bodyPostM Fence.wide 0 Try.prog Try.f53 fun e w' => e = .returned (.bool true) ∧ Ext [] w w')) ?_ NoPanic.out)
  go_wp2_with fail
  try rw [hW]
  try rw [hz0]
  try rw [hz1]
  clear hW hz0 hz1
  go_loopg [5] 10 (fun k i wr => ∃ i0 : Int, i = .int .i64 i0 ∧ i0 + 1 + k = 10 ∧ 0 ≤ i0 + 1 ∧ Ext [] W wr)
  case atStart => exact ⟨-1, rfl, by omega, by omega, Ext.refl _ _⟩
  case round =>
    obtain ⟨i0, rfl, hik, hi0, hE⟩ := hrel
    by_cases hlt : i0 < 9
    · have hwi : wrap64 (i0 + 1) = i0 + 1 := IntWalk.wrap64_in _ (by omega)
      have HM := Lib.hid (And.intro hik (And.intro hi0 hE))
      have hblk := hE.at H.out.2.1 (by simp)
      have hclk := H.out.2.2.2.1.ext hE (by simp) (by simp)
      have HAT := Lib.hid (ep_At c m now l i0 wr hclk)
      have HTH := Lib.hid (rf_Thread i0 wr)
      rcases H.out.2.2.2.2.1.lk i0 with ⟨hl, hp⟩ | ⟨q, hq8, rfl, hl, hp0, hp1⟩
      · rw [hl] at HAT
        simp only [Option.getD_none, Option.isSome_none] at HAT
        by_cases ht : 0 ≤ i0 ∧ i0 < 8
        · obtain ⟨q, rfl⟩ : ∃ q : Nat, i0 = (q : Int) := ⟨i0.toNat, by omega⟩
          have p1 := cell_of (j := 1 + q) hblk (refC_get now (pinN l) q (by omega))
          rw [hp q rfl] at p1
          rw [(thr_iff _).2 ht] at HTH
          have hq0 : (0 : Int) ≤ (q : Int) := by omega
          have hq8 : (q : Int) < 8 := ht.2
          clear hik hi0 hE hblk hclk hl hp ht
          go_wp2_with (first | (go_at_call 54; refine HAT.out.mono ?_; rintro e w' ⟨rfl, rfl⟩) | (go_at_call 101; refine HTH.out.mono ?_; rintro e w' ⟨rfl, rfl⟩))
          go_roundg (gk - 1)
          case measure => have := HM.out; omega
          case rel => exact ⟨(q : Int) + 1, by first | rw [hwi] | rfl, by have := HM.out; omega, by have := HM.out; omega, HM.out.2.2⟩
        · rw [show thrB i0 = false from by cases hb : thrB i0 with | false => rfl | true => exact absurd ((thr_iff i0).1 hb) ht] at HTH
          clear hik hi0 hE hblk hclk hl hp ht
          go_wp2_with (first | (go_at_call 54; refine HAT.out.mono ?_; rintro e w' ⟨rfl, rfl⟩) | (go_at_call 101; refine HTH.out.mono ?_; rintro e w' ⟨rfl, rfl⟩))
          go_roundg (gk - 1)
          case measure => have := HM.out; omega
          case rel => exact ⟨i0 + 1, by first | rw [hwi] | rfl, by have := HM.out; omega, by have := HM.out; omega, HM.out.2.2⟩
      · rw [hl] at HAT
        simp only [Option.getD_some, Option.isSome_some] at HAT
        have p1 := cell_of (j := 1 + q) hblk (refC_get now (pinN l) q hq8)
        rw [(thr_iff _).2 ⟨by omega, by omega⟩] at HTH
        have hq0 : (0 : Int) ≤ (q : Int) := by omega
        have hq8 : (q : Int) < 8 := by omega
        have hn0 : (pinN l q == 0) = false := by simp; omega
        have hwp : wrap64 (pinN l q - 1) = pinN l q - 1 := IntWalk.wrap64_in _ (by have := H.out.2.2.2.2.2.1; omega)
        have hne : (pinN l q - 1 != pinN l q - 1) = false := bne_self_eq_false _
        clear hik hi0 hE hblk hclk hl hp0 hp1
        go_wp2_with (first | (go_at_call 54; refine HAT.out.mono ?_; rintro e w' ⟨rfl, rfl⟩) | (go_at_call 101; refine HTH.out.mono ?_; rintro e w' ⟨rfl, rfl⟩))
        go_roundg (gk - 1)
        case measure => have := HM.out; omega
        case rel => exact ⟨(q : Int) + 1, by first | rw [hwi] | rfl, by have := HM.out; omega, by have := HM.out; omega, HM.out.2.2⟩
    · have hblk := hE.at H.out.2.1 (by simp)
      obtain ⟨r1, r2⟩ := row_of hblk
      have H1 := Lib.hid (And.intro hE (And.intro hblk (And.intro (hE.at H.out.2.2.1 (by simp)) (H.out.2.2.2.1.ext hE (by simp) (by simp)))))
      clear hE hblk hik hi0
      go_wp2_with fail
      refine (rf_Pinned now l wr).mono ?_
      rintro e w2 ⟨ao, cap, rfl, hint, hE2, hao⟩
      have hNl : (refP l 8).length = l.length := by rw [← sortK_ref H.out.2.2.2.2.1, sortK_len]
      obtain ⟨N, hN⟩ : ∃ N, (refP l 8).length = N := ⟨_, rfl⟩
      have hN8 : N ≤ 8 := by rw [← hN]; exact refP_len l 8
      rw [hN] at hNl ⊢
      have HNL := Lib.hid hNl
      clear hNl
      go_wp2_with fail
      have hNl := HNL.out
      obtain ⟨W3, hW3⟩ : ∃ W3, (w2.alloc (.cells #[.slice ao N cap] 43)).alloc (.cells #[.int .i64 0] 3) = W3 := ⟨_, rfl⟩
      obtain ⟨hb8, hb9, hs3⟩ := al2_heap (w := w2) #[.slice ao N cap] #[.int .i64 0] 43 3
      obtain ⟨b8, hz8⟩ : ∃ b8, w2.heap.size = b8 := ⟨_, rfl⟩
      obtain ⟨b9, hz9⟩ : ∃ b9, b8 + 1 = b9 := ⟨_, rfl⟩
      rw [hW3, hz8] at hb8 hb9
      rw [hz9] at hb9
      have hE3 : Ext [] w2 W3 := by rw [← hW3]; exact ((Ext.refl _ _).alloc _).alloc _
      have hst : IsSt W W3 c m b0 rb b8 b9 now l ao N cap := by
        have hX := hE2.trans hE3
        have s1 := H1.out.1.size
        have s2 := hE2.size
        have x1 := lt_of_block H1.out.2.1
        have x2 := lt_of_block H1.out.2.2.1
        have x3 := lt_of_block H1.out.2.2.2.1
        have x4 := H1.out.2.2.2.2.lt
        refine ⟨H1.out.1.trans hX, hX.at H1.out.2.1 (by simp), hX.at H1.out.2.2.1 (by simp), H1.out.2.2.2.ext hX (by simp) (by simp), hb8, hint.ext hE3 (fun p hp => by simp), by omega, by omega, by omega, by omega, by omega, by omega, fun p hp => ?_⟩
        have := (hao p hp).2
        omega
      try rw [hW3]
      try rw [hz8]
      try rw [hz9]
      have H3 := Lib.hid (And.intro hst (And.intro hb9 (And.intro hN (And.intro hNl hN8))))
      clear hst hb9 hb8 hs3 hE3 hW3 hint hE2 hao hz8 hz9 r1 r2 hN hNl
      refine (ep_Pinned c m now l W3 H3.out.1.clk).mono ?_
      rintro e W4 ⟨B1, bm1, rfl, hE4, _, _, _⟩
      have H4 := Lib.hid (And.intro (H3.out.1.ext1 hE4) (hE4.at H3.out.2.1 (by simp)))
      clear hE4
      have heq := eqfn2 96 #[.pointer (some ⟨B1, 0, none⟩)] W4
      go_wp2_with fail
      refine (ep_Pinned c m now l W4 H4.out.1.clk).mono ?_
      rintro e W5 ⟨B, bq, rfl, hE5, hP, hB, hbq⟩
      have H5 := Lib.hid (And.intro (H4.out.1.ext1 hE5) (And.intro (hE5.at H4.out.2 (by simp)) (And.intro hP (And.intro (show b9 < B by have := lt_of_block H4.out.2; omega) (show b9 < bq by have := lt_of_block H4.out.2; omega)))))
      clear hE5 hP hB hbq heq
      have hok := H.out.2.2.2.2.1
      have hl8 : l.length ≤ 8 := by have := H3.out.2.2; omega
      go_wp2
      refine wpIn_wide.1 (wp_range (gf := 96) (lb := #[.pointer (some ⟨B, 0, none⟩)]) rfl (fun args w => enters_of Try.func96 (by kernel_rfl) rfl args w)
        (pinned_seq B bq l (by omega) hok.wf) (fun pre x h => by obtain ⟨k, _, _, rfl⟩ := okP_last h; rfl) [b9]
        (CntGo W5 b9 3 1000) (fun _ _ => False) ?_ ?_ ?_ ?_ ?_ ?_ ?_ ?_)
      · exact fun mm pre => CntGo.steady (Nat.le_refl _) mm pre
      · exact fun c => Steady.const _ _
      · rintro mm pre W' ⟨_, hE, _⟩
        have h := H5.out.2.2
        exact ⟨hE.cell h.1.1 (by simp; omega), h.1.2.ext hE (by simp; omega)⟩
      · intro x hx
        simp at hx
        subst hx
        exact lt_of_block H5.out.2.1
      · exact CntGo.start H5.out.2.1
      · rintro l2 mm pre x W' hl2 hi hokp
        obtain ⟨k, hk, hpre, rfl⟩ := okP_last hokp
        have hpl : pre.length = k := by rw [hpre, encP_len _ _ (by omega)]
        rw [sortK_ref hok]
        obtain ⟨p, hp⟩ : ∃ p, (refP l 8).getD k 0 = p := ⟨_, rfl⟩
        have hmem : p ∈ keysOf l := by
          rw [← hp, ← sortK_ref hok]
          exact (sortK_perm l).mem_iff.1 (by rw [List.getD_eq_getElem?_getD, List.getElem?_eq_getElem (by rw [sortK_len]; exact hk)]; exact List.getElem_mem _)
        rw [hp]
        rcases hok.lk p with ⟨h1, _⟩ | ⟨q, hq8, hqp, hlq, hp0, hp1⟩
        · exact absurd hmem ((look_none l p).1 h1)
        subst hqp
        unfold pairV
        rw [hlq]
        simp only [Option.getD_some]
        have HI := Lib.hid (And.intro hi (And.intro hpl (And.intro hk (And.intro hp (And.intro hp0 hp1)))))
        clear hi hpl hk hokp hpre hp hl2 hmem hlq hp0 hp1
        intro K hK
        gi_wp2
        refine hK _ _ (Ext.refl [] _) ?_
        intro W6 hC
        clear hK K
        have hi6 := CntGo.steady (Nat.le_refl _) mm pre _ _ HI.out.1 hC
        obtain ⟨rfl, hE6, hb6, _⟩ := id hi6
        have hst6 := H5.out.1.extk hE6 (fun x hx => by simp at hx; omega)
        rw [HI.out.2.1] at hb6
        have q0 := cell_of (j := 0) (v := .int .i64 k) hb6 rfl
        have q1 := free_of hb6 0
        have k8 := cell_of (j := 0) hst6.row rfl
        have hkN : k < N := by have := HI.out.2.2.1; have := H3.out.2.2.2.1; omega
        obtain ⟨g, off, e1, e2⟩ := hst6.ints k (by have := H3.out.2.2.1; omega)
        rw [HI.out.2.2.2.1] at e2
        have p1 := cell_of (j := 1 + q) hst6.blk (refC_get now (pinN l) q hq8)
        have hk0 : (0 : Int) ≤ (k : Int) := by omega
        have hkI : (k : Int) < (N : Int) := by omega
        have hge : ¬ ((N : Int) ≤ (k : Int)) := by omega
        have hq0 : (0 : Int) ≤ (q : Int) := by omega
        have hq8' : (q : Int) < 8 := by omega
        have hne0 : ((q : Int) != (q : Int)) = false := bne_self_eq_false _
        have hne1 : (pinN l q - 1 != pinN l q - 1) = false := bne_self_eq_false _
        have hwp : wrap64 (pinN l q - 1) = pinN l q - 1 := IntWalk.wrap64_in _ (by have := HI.out.2.2.2.2; have := H.out.2.2.2.2.2.1; omega)
        have hwk : wrap64 ((k : Int) + 1) = (k : Int) + 1 := IntWalk.wrap64_in _ (by omega)
        have H9 := Lib.hid (And.intro hi6 hE6)
        subst e1
        clear hi6 hE6 hb6 hst6 hC hkN
        clear hok hl8
        iterate 76 (first | go_values | gi_guarded | gi_step | gi_upon)
        clear hne0 hne1 hwp hk0 hkI hge hq0 hq8' p1 e2 k8 hlt
        gi_wp2
        obtain ⟨m', h1, h2⟩ := H9.out.1.step (Wx := W') (x := #[.int .i64 q, .int .i64 (pinN l q - 1)]) HI.out.2.1 (by have := HI.out.2.2.1; have := H3.out.2.2; omega)
        exact ⟨(Ext.refl _ _).setCell (.inl (by simp)) _, m', h1, by first | exact h2 | (rw [hwk]; exact h2)⟩
      · intro D mm xs W' hD hx hi hdD
        obtain ⟨rfl, hE, hb, _⟩ := hi
        rw [show xs = _ from hx, encP_len _ _ (Nat.le_refl _)] at hb
        have hst := H5.out.1.extk hE (fun x hx => by simp at hx; omega)
        rw [show l.length = N from H3.out.2.2.2.1.symm] at hb
        have hDb : b9 < D := by have := lt_of_block H5.out.2.1; omega
        have H7 := Lib.hid (And.intro hst (And.intro hdD hDb))
        have HRD : Hid (∀ X, Ext [rb] W' X → X.cell? ⟨b9, 0, none⟩ = some (.int .i64 N) ∧ X.cell? ⟨b8, 0, none⟩ = some (.slice ao N cap) ∧ X.cell? ⟨b0, 0, none⟩ = some (.int .i64 now)) := fun X hX => by
          obtain ⟨z1, z2, z3, z4, z5, _⟩ := hst.lo
          have hrl : rb ≠ b8 := fun e => by have h1 := hst.res; have h2 := hst.row; rw [e, h2] at h1; simp at h1
          have hr0 : rb ≠ b0 := fun e => by have h1 := hst.res; have h2 := hst.blk; rw [e, h2] at h1; simp at h1
          exact ⟨hX.cell (cell_of (j := 0) hb rfl) (by simp; omega), hX.cell (cell_of (j := 0) hst.row rfl) (by simp; omega), hX.cell (cell_of (j := 0) hst.blk rfl) (by simp; omega)⟩
        have hN2 : ((N : Int) == (N : Int)) = true := beq_self_eq_true _
        have hN3 : (now == now) = true := beq_self_eq_true _
        have hN4 : wrap64 (N : Int) = (N : Int) := IntWalk.wrap64_in _ (by have := H3.out.2.2.2.2; omega)
        have k0 := cell_of (j := 0) (v := .bool false) hst.res rfl
        have f0 := free_of hst.res 0
        clear hE hb hx hst hdD hD hok hl8 hlt hN8 hDb
        go_upto_region 20 with fail
        refine wp_region_p4 [] (hds4 [0, 1, 2, 3, 4, 5, 7, 8] (.tl 6 (hds4 [9, 10] (.tl 11 .done)))) (Ext [rb] W') (by kernel_rfl) (by kernel_rfl) (fun _ d _ _ _ h => by cases d <;> exact h) (Ext.refl _ _).drew ?_
        repeat (first
          | (refine wpPl_no4 rfl (by rfl) ?_; simp only [Act.put, List.setIfInBounds_toArray, List.set_cons_zero, List.set_cons_succ])
          | (refine wpPl_hd4 ?_ rfl (by rfl) (fun w hSw => ?_) ?_
             rotate_left
             · (obtain ⟨g1, g2, g3⟩ := HRD.out _ hSw; clear hSw; go_simp; first | exact ⟨rfl, rfl⟩ | exact rfl)
             simp only [Act.put, List.setIfInBounds_toArray, List.set_cons_zero, List.set_cons_succ]))
        refine wpPl_tl4 rfl (by rfl) (fun K hK => ?_)
        go_simp
        go_at_call 18
        refine (ep_now c m now l _ (H7.out.1.clk.ext (Ext.refl [] _).drew (by simp) (by simp))).mono ?_
        rintro e w' ⟨rfl, rfl⟩
        refine hK _ _ (fun _ => (Ext.refl _ _).drew) ?_
        clear hK K
        try simp only [Act.put, List.setIfInBounds_toArray, List.set_cons_zero, List.set_cons_succ]
        repeat (first
          | (refine wpPl_no4 rfl (by rfl) ?_; simp only [Act.put, List.setIfInBounds_toArray, List.set_cons_zero, List.set_cons_succ])
          | (refine wpPl_hd4 ?_ rfl (by rfl) (fun w hSw => ?_) ?_
             rotate_left
             · (obtain ⟨g1, g2, g3⟩ := HRD.out _ hSw; clear hSw; go_simp; first | exact ⟨rfl, rfl⟩ | exact rfl)
             simp only [Act.put, List.setIfInBounds_toArray, List.set_cons_zero, List.set_cons_succ]))
        refine wpPl_tl4 rfl (by rfl) (fun K hK => ?_)
        go_simp
        refine hK _ _ (fun _ => (Ext.refl _ _).drew.setCell (.inl (by simp)) _) ?_
        clear hK K
        try simp only [Act.put, List.setIfInBounds_toArray, List.set_cons_zero, List.set_cons_succ]
        refine wpPl_done4 ?_
        go_wp2
        show LeavesInM _ _ _ _ _ _ _ _ _
        have hbr := H7.out.1.res
        have hDr : D ≠ rb := by have := H7.out.1.lo; have := H7.out.2.2; omega
        refine leaves_marks (v := .bool true) [D] _ (fun D' hD' => ?_) (by simp) (fun w' hE' => ⟨results_cellb Try.results53 _ _ ⟨rb, 0, none⟩ _ (by kernel_rfl) rfl (hE'.cell (cell_of (cell1_set (w := World.drew W') hbr _) rfl) (by simp; omega)), rfl, ?_⟩)
        · rw [List.mem_singleton.1 hD']
          exact block_sc (w := World.drew W') hDr H7.out.2.1
        · have hrw : w.heap.size ≤ rb := by have := H.out.2.2.2.2.2.2; omega
          have hDw : w.heap.size ≤ D := by have := H7.out.2.2; have := H7.out.1.lo; omega
          exact ((H.out.1.trans H7.out.1.ext).drew.setCell (.inr hrw) _).trans' hE' (fun j hj => .inr (by simp at hj; omega))
      · intro D c' W' hD h
        exact h.elim
end Go.Proofs.Ytgpoplnfhlfogaa
