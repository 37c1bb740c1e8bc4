/- Package limbo: Pass (printed by wip/mkLmF.py). -/
import Derived.Test.YtgpoplnfhlfogaaLmE
namespace Go.Proofs.Ytgpoplnfhlfogaa
open Go Go.RowKit Go.Shelf
attribute [local go_sem] Oper.semAt_some

theorem results_t3 {P : Program} {fn : Func} {t u v : Tmp} (h : fn.results = #[.tmp t, .tmp u, .tmp v]) (tmps : Array Value) (w : World) :
    (results fn tmps).run P w = .ok (.tuple #[tmps.getD t undef, tmps.getD u undef, tmps.getD v undef]) w := by
  simp [results, h]
set_option maxRecDepth 100000 in
set_option maxHeartbeats 4000000 in
theorem lm_pass_no (b c m p mb : Nat) (lo : Int) (n : Nat) (now : Int) (l : Ents) (S : Lns) (G : Nat → List Int) (ga : Nat → Option Addr) (gc : Nat → Nat) (w : World) (h : LimAt w b c m p mb lo n now l S G ga gc) (hl0 : 0 ≤ now) (hl1 : now ≤ 1073741823) (hv : ∀ x ∈ l, ∃ n, x.2 = .int .i64 n) (ha : advOk now l = false) :
    Calls Try.prog 45 #[.pointer (some ⟨b, 0, none⟩)] w fun e w' => e = .returned (.tuple #[.int .i64 0, .bool false, .int .i64 0]) ∧ Ext [c] w w' ∧ LimAt w' b c m p mb lo n now l S G ga gc := by
  have HN := Lib.hid (lm_none b c m p mb lo n now l S G ga gc w h)
  have k0 := cell_of (j := 0) (v := .pointer (some ⟨c, 0, none⟩)) h.blk rfl
  have HA := Lib.hid (ep_adv_no c m now l w h.clk hv hl0 (by omega) ha)
  have H := Lib.hid h
  clear h ha hv
  go_enter Try.func45, Try.ntmps45
  go_wp2_with fail
  refine HN.out.mono ?_
  rintro e w' ⟨rfl, rfl⟩
  go_wp2_with fail
  refine HA.out.mono ?_
  rintro e W1 ⟨rfl, hE1, hc1⟩
  have H1 := Lib.hid (And.intro hE1 (H.out.clock hE1 hc1))
  clear hE1 hc1
  go_wp2
  (try simp only [Exit.inBlock, Exit.then])
  refine bodyPost_ret (results_t3 rfl _ _) rfl ?_
  exact ⟨rfl, H1.out.1, H1.out.2⟩
/-- what Pass leaves -/
def PassPost (b c m p mb : Nat) (lo : Int) (n : Nat) (now : Int) (l : Ents) (S : Lns) (G : Nat → List Int) (ga : Nat → Option Addr) (gc : Nat → Nat) (w : World) (e : Ending) (w' : World) : Prop :=
  e = .returned (.tuple #[.int .i64 (G (q3 (now + 2))).length, .bool true, .int .i64 (turnN S lo n false 5 (G (q3 (now + 2)))).1]) ∧ Ext [b, c, p] w w' ∧
    ∃ mb', LimAt w' b c m p mb' lo n (now + 1) l (turnN S lo n false 5 (G (q3 (now + 2)))).2 (gon G (q3 (now + 2)) []) (gaN ga (q3 (now + 2)) none) (gcN gc (q3 (now + 2)) 0) ∧ (mb' = mb ∨ w.heap.size ≤ mb')
set_option maxRecDepth 100000 in
set_option maxHeartbeats 4000000 in
theorem lm_pass_yes (b c m p mb : Nat) (lo : Int) (n : Nat) (now : Int) (l : Ents) (S : Lns) (G : Nat → List Int) (ga : Nat → Option Addr) (gc : Nat → Nat) (w : World) (h : LimAt w b c m p mb lo n now l S G ga gc) (hl0 : 0 ≤ now) (hl1 : now ≤ 1073741823) (hv : ∀ x ∈ l, ∃ n, x.2 = .int .i64 n) (ha : advOk now l = true) (hB : CntB S) (hG : ∀ k, k < 3 → (G k).length ≤ 400000) :
    Calls Try.prog 45 #[.pointer (some ⟨b, 0, none⟩)] w (PassPost b c m p mb lo n now l S G ga gc w) := by
  have HN := Lib.hid (lm_none b c m p mb lo n now l S G ga gc w h)
  have k0 := cell_of (j := 0) (v := .pointer (some ⟨c, 0, none⟩)) h.blk rfl
  have HA := Lib.hid (ep_adv_yes c m now l w h.clk hv hl0 (by omega) ha)
  have H := Lib.hid (And.intro h hB)
  obtain ⟨q, hq⟩ : ∃ q, q3 (now + 2) = q := ⟨_, rfl⟩
  have hq3 : q < 3 := by rw [← hq]; unfold q3; omega
  have hqq : (now + 2).tmod 3 = (q : Int) := by rw [← hq]; unfold q3; rw [Int.tmod_eq_emod_of_nonneg (by omega)]; omega
  have hw2 : wrap64 (now + 1 + 1) = now + 2 := by rw [IntWalk.wrap64_in _ (by omega)]; omega
  have hw3 : IntKind.i64.wrap (now + 1 + 1) = now + 2 := by rw [show now + 1 + 1 = now + 2 from by omega]; exact IntWalk.i64_in _ (by omega)
  obtain ⟨M, hM⟩ : ∃ M, G q = M := ⟨_, rfl⟩
  obtain ⟨mm, hmm⟩ : ∃ mm, M.length = mm := ⟨_, rfl⟩
  obtain ⟨er, her⟩ : ∃ er, (turnN S lo n false 5 M).1 = er := ⟨_, rfl⟩
  obtain ⟨S', hS'⟩ : ∃ S', (turnN S lo n false 5 M).2 = S' := ⟨_, rfl⟩
  have hml : mm ≤ 400000 := by rw [← hmm, ← hM]; exact hG q hq3
  obtain ⟨a1, ha1⟩ : ∃ a1, ga q = a1 := ⟨_, rfl⟩
  obtain ⟨c1, hc1⟩ : ∃ c1, gc q = c1 := ⟨_, rfl⟩
  unfold PassPost
  rw [hq, hM, hmm, her, hS']
  have HM := Lib.hid (And.intro hM (And.intro hmm (And.intro her (And.intro hS' (And.intro hq3 (And.intro hml (And.intro ha1 hc1)))))))
  clear h ha hv hB hG hq hM hmm her hS' hml ha1 hc1
  go_enter Try.func45, Try.ntmps45
  go_wp2_with fail
  refine HN.out.mono ?_
  rintro e w' ⟨rfl, rfl⟩
  go_wp2_with fail
  refine HA.out.mono ?_
  rintro e W1 ⟨rfl, hE1, hcl1⟩
  have hL1 := H.out.1.clock hE1 hcl1
  have HR1 : Hid (∀ X, Ext [] W1 X → X.cell? ⟨b, 0, none⟩ = some (.pointer (some ⟨c, 0, none⟩))) := fun X hX => hX.cell (cell_of (j := 0) hL1.blk rfl) (by simp)
  have HNOW := Lib.hid (fun X (hX : Ext [] W1 X) => ep_now c m (now + 1) l X (hL1.clk.ext hX (by simp) (by simp)))
  have HLI := Lib.hid (fun X => lm_list (now + 2) X)
  rw [hqq] at HLI
  have H1 := Lib.hid (And.intro hE1 hL1)
  have hq0 : (0 : Int) ≤ (q : Int) := by omega
  have hq3' : (q : Int) < 3 := by omega
  clear hE1 hcl1 hL1 k0 HN HA hqq
  go_upto_region 6 with fail
  refine wp_mono (Q := Exit.then _ (NoPanic _)) ?_ then_np'
  refine wp_region_p4 [] (hds4 [0, 1, 2, 3, 4, 5, 9, 10] (.tl 6 (hds4 [7] (.tl 8 (hds4 [11] (.tl 12 .done)))))) (Ext [] W1) (by kernel_rfl) (by kernel_rfl) (fun _ d _ _ _ h => by cases d <;> exact h) (Ext.refl _ _).drew ?_
  repeat (first
    | (refine wpPl_no4 rfl (by rfl) ?_; simp only [Act.put, List.setIfInBounds_toArray, List.set_cons_zero, List.set_cons_succ])
    | (refine wpPl_hd4 ?_ rfl (by rfl) (fun w hSw => ?_) ?_
       rotate_left
       · (have g1 := HR1.out _ hSw; clear hSw; go_simp; first | exact ⟨rfl, rfl⟩ | exact rfl)
       simp only [Act.put, List.setIfInBounds_toArray, List.set_cons_zero, List.set_cons_succ]))
  refine wpPl_tl4 rfl (by rfl) (fun K hK => ?_)
  go_simp
  go_at_call 18
  refine (HNOW.out _ (Ext.refl _ _).drew).mono ?_
  rintro e w' ⟨rfl, rfl⟩
  refine hK _ _ (fun _ => (Ext.refl _ _).drew) ?_
  clear hK K
  try simp only [Act.put, List.setIfInBounds_toArray, List.set_cons_zero, List.set_cons_succ]
  repeat (first
    | (refine wpPl_no4 rfl (by rfl) ?_; simp only [Act.put, List.setIfInBounds_toArray, List.set_cons_zero, List.set_cons_succ])
    | (refine wpPl_hd4 ?_ rfl (by rfl) (fun w hSw => ?_) ?_
       rotate_left
       · (clear hSw; go_simp; first | exact ⟨rfl, rfl⟩ | exact rfl)
       simp only [Act.put, List.setIfInBounds_toArray, List.set_cons_zero, List.set_cons_succ]))
  refine wpPl_tl4 rfl (by rfl) (fun K hK => ?_)
  go_simp
  try rw [hw2]
  go_at_call 88
  refine (HLI.out _).mono ?_
  rintro e w' ⟨rfl, rfl⟩
  refine hK _ _ (fun _ => (Ext.refl _ _).drew) ?_
  clear hK K
  try simp only [Act.put, List.setIfInBounds_toArray, List.set_cons_zero, List.set_cons_succ]
  repeat (first
    | (refine wpPl_no4 rfl (by rfl) ?_; simp only [Act.put, List.setIfInBounds_toArray, List.set_cons_zero, List.set_cons_succ])
    | (refine wpPl_hd4 ?_ rfl (by rfl) (fun w hSw => ?_) ?_
       rotate_left
       · (clear hSw; go_simp; first | exact ⟨rfl, rfl⟩ | exact rfl)
       simp only [Act.put, List.setIfInBounds_toArray, List.set_cons_zero, List.set_cons_succ]))
  refine wpPl_tl4 rfl (by rfl) (fun K hK => ?_)
  go_simp
  refine hK _ _ (fun _ => (Ext.refl _ _).drew) ?_
  clear hK K
  try simp only [Act.put, List.setIfInBounds_toArray, List.set_cons_zero, List.set_cons_succ]
  refine wpPl_done4 ?_
  obtain ⟨W2, hW2⟩ : ∃ W2, W1.drew = W2 := ⟨_, rfl⟩
  have hE2 : Ext [] W1 W2 := by rw [← hW2]; exact (Ext.refl _ _).drew
  have hL2 := H1.out.2.ext0 hE2
  have hcell := cell_of (j := 2 + q) hL2.blk (limC_get c p G ga gc q hq3)
  rw [HM.out.1, HM.out.2.1, HM.out.2.2.2.2.2.2.1, HM.out.2.2.2.2.2.2.2] at hcell
  have hgon := hL2.gone q hq3
  rw [HM.out.1, HM.out.2.1, HM.out.2.2.2.2.2.2.1] at hgon
  have HGV := Lib.hid (fun X (hX : Ext [] W2 X) => al_Give p mb lo n S a1 mm c1 (fun i => M.getD i 0) X (hL2.ext0 hX).pool (hgon.ext hX) (by have := HM.out.2.2.2.2.2.1; omega) H.out.2)
  have HR2 : Hid (∀ X, Ext [p] W2 X → X.cell? ⟨b, 2 + q, none⟩ = some (.slice a1 mm c1) ∧ X.cell? ⟨b, 1, none⟩ = some (.pointer (some ⟨p, 0, none⟩))) := fun X hX => by
    have hn := hL2.ne
    exact ⟨hX.cell hcell (by simp; omega), hX.cell (cell_of (j := 1) hL2.blk rfl) (by simp; omega)⟩
  have H2 := Lib.hid (And.intro (H1.out.1.then hE2) hL2)
  try rw [hW2]
  clear hW2 hE2 hL2 hgon HR1 HNOW HLI H1
  go_upto_region 8 with fail
  clear hcell
  refine wp_region_p4 [] (hds4 [0, 1, 2, 3, 4, 5, 6] (.tl 7 (.tl 8 .done))) (Ext [p] W2) (by kernel_rfl) (by kernel_rfl) (fun _ d _ _ _ h => by cases d <;> exact h) (Ext.refl _ _).drew ?_
  repeat (first
    | (refine wpPl_no4 rfl (by rfl) ?_; simp only [Act.put, List.setIfInBounds_toArray, List.set_cons_zero, List.set_cons_succ])
    | (refine wpPl_hd4 ?_ rfl (by rfl) (fun w hSw => ?_) ?_
       rotate_left
       · (obtain ⟨g1, g2⟩ := HR2.out _ hSw; clear hSw; go_simp; first | exact ⟨rfl, rfl⟩ | exact rfl)
       simp only [Act.put, List.setIfInBounds_toArray, List.set_cons_zero, List.set_cons_succ]))
  refine wpPl_tl4 rfl (by rfl) (fun K hK => ?_)
  go_simp
  go_at_call 26
  refine (HGV.out _ (Ext.refl _ _).drew).mono ?_
  rintro e W3 ⟨he, hE3, mb', hP3, hmb'⟩
  rw [show lst (fun i => M.getD i 0) mm = M from by rw [← HM.out.2.1]; exact lst_getD M, HM.out.2.2.1] at he
  rw [show lst (fun i => M.getD i 0) mm = M from by rw [← HM.out.2.1]; exact lst_getD M, HM.out.2.2.2.1] at hP3
  subst he
  have hE3' : Ext [p] W2 W3 := (Ext.refl _ _).drew.trans hE3
  have hL3 := H2.out.2.pooled hE3' hP3 (hmb'.imp id (fun h => h))
  have hn := hL3.ne
  have k5 := hE3'.cell (HR2.out _ (Ext.refl _ _)).1 (by simp; omega)
  have f5 := free_of hL3.blk (2 + q)
  have H3 := Lib.hid (And.intro hE3' (And.intro hL3 (hmb'.imp id (fun h => (show W2.heap.size ≤ mb' from h)))))
  refine hK _ _ (fun _ => H3.out.1) ?_
  clear hK K hE3 hE3' hL3 hP3 hmb' hn
  try simp only [Act.put, List.setIfInBounds_toArray, List.set_cons_zero, List.set_cons_succ]
  refine wpPl_tl4 rfl (by rfl) (fun K hK => ?_)
  go_simp
  refine hK _ _ (fun _ => H3.out.1) ?_
  clear hK K
  try simp only [Act.put, List.setIfInBounds_toArray, List.set_cons_zero, List.set_cons_succ]
  refine wpPl_done4 ?_
  clear HR2 HGV
  go_wp2
  (try simp only [Exit.inBlock, Exit.then])
  refine bodyPost_ret (results_t3 rfl _ _) rfl ?_
  have hfin := H3.out.2.1.listed hq3 (ao := none) (L := []) (cap := 0) (.inl rfl) (fun x hx => by cases hx)
  refine ⟨rfl, ?_, mb', hfin, H3.out.2.2.imp id (fun h => Nat.le_trans H2.out.1.size h)⟩
  refine Ext.setCell ?_ (.inl (by simp)) _
  exact (H2.out.1.sub (fun x hx => by simp at hx; simp [hx])).trans (H3.out.1.sub (fun x hx => by simp at hx; simp [hx]))
end Go.Proofs.Ytgpoplnfhlfogaa
