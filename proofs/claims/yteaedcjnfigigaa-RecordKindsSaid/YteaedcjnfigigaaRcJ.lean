/- The walk of the law RecordKinds. -/
import Derived.Test.YteaedcjnfigigaaRcI
import Derived.LoopN
import Derived.Deep.CutRange
namespace Go.Proofs.Yteaedcjnfigigaa
open Go Go.RowKit
attribute [local go_sem] Oper.semAt_some
attribute [local go_sem ↓] wp_load25

theorem cntE_le (F : Nat → Int) : cntE F ≤ 15 := by
  unfold cntE
  split <;> first | omega | (unfold unpN; omega)

set_option maxRecDepth 100000 in
set_option maxHeartbeats 20000000 in
theorem rc_lawkinds (F : Nat → Int) (k : Int) (w : World) (hF : ∀ i, U64 (F i)) (hk0 : -9223372036854775808 ≤ k) (hk1 : k ≤ 9223372036854775807) :
    Calls Try.prog 6 #[.agg (arrF 24 F), .int .i64 k] w fun e w' => e = .returned (.bool true) ∧ Ext [] w w' := by
  have HW := Lib.hid (rc_works)
  have HF := Lib.hid hF
  have hF0 : ∀ i, 0 ≤ F i := fun i => (hF i).1
  have HF0 := Lib.hid hF0
  have hE0 := (((Ext.refl [] w).alloc (.cells (arrF 24 F) 25)).alloc (.cells #[.int .i64 k] 3)).alloc (.cells #[.bool false] 4)
  have hs0 : (((w.alloc (.cells (arrF 24 F) 25)).alloc (.cells #[.int .i64 k] 3)).alloc (.cells #[.bool false] 4)).heap.size = w.heap.size + 3 := by simp
  have hb2 : (((w.alloc (.cells (arrF 24 F) 25)).alloc (.cells #[.int .i64 k] 3)).alloc (.cells #[.bool false] 4)).heap[w.heap.size]? = some (.cells (arrF 24 F) 25 (0, 0)) := block_al (block_al (World.alloc_heap_new _ _))
  have hb3 : (((w.alloc (.cells (arrF 24 F) 25)).alloc (.cells #[.int .i64 k] 3)).alloc (.cells #[.bool false] 4)).heap[w.heap.size + 1]? = some (.cells #[.int .i64 k] 3 (0, 0)) := by
    have := World.alloc_heap_new (w.alloc (.cells (arrF 24 F) 25)) (.cells #[.int .i64 k] 3)
    rw [World.size_alloc] at this
    exact block_al this
  have hb4 : (((w.alloc (.cells (arrF 24 F) 25)).alloc (.cells #[.int .i64 k] 3)).alloc (.cells #[.bool false] 4)).heap[w.heap.size + 2]? = some (.cells #[.bool false] 4 (0, 0)) := by
    have := World.alloc_heap_new ((w.alloc (.cells (arrF 24 F) 25)).alloc (.cells #[.int .i64 k] 3)) (.cells #[.bool false] 4)
    rwa [World.size_alloc, World.size_alloc] at this
  generalize hw0 : ((w.alloc (.cells (arrF 24 F) 25)).alloc (.cells #[.int .i64 k] 3)).alloc (.cells #[.bool false] 4) = w0 at *
  have H0 := Lib.hid (And.intro hE0 (And.intro hb2 (And.intro hb3 (And.intro hb4 hs0))))
  clear hF hF0 hE0 hb3 hb4 hs0
  have finM : Hid (∀ (Ds : List Nat) (tmps : Array Value) (W' : World), tmps.getD 4 undef = .pointer (some ⟨w.heap.size + 2, 0, none⟩) → Ext [] w0 W' → (∀ D ∈ Ds, w0.heap.size ≤ D ∧ W'.heap[D]? = some (.deferred (some []))) → Ds.Nodup →
      LeavesInM Fence.wide 0 Try.prog Try.f6 tmps (fun e w' => e = .returned (.bool true) ∧ Ext [] w w') (Ds.map fun D => { target := .collected D, args := #[] }) .returning (W'.setCell ⟨w.heap.size + 2, 0, none⟩ (.bool true))) := by
    intro Ds tmps W' ht hE hD hN
    have hb4 := H0.out.2.2.2.1
    have hlt := lt_of_block hb4
    refine leaves_marks (v := .bool true) Ds _ (fun D hm => block_sc (by show D ≠ w.heap.size + 2; have := (hD D hm).1; omega) (hD D hm).2) hN (fun w' hE' => ⟨results_cellb Try.results6 _ _ ⟨w.heap.size + 2, 0, none⟩ _ (by kernel_rfl) ht ?_, rfl, ?_⟩)
    · exact hE'.cell (World.cell?_setCell_same _ _ _ (cell_of (j := 0) (v := .bool false) (hE.at hb4 (by simp)) rfl)) (fun hm => by have := (hD _ hm).1; simp at this; omega)
    · exact ((H0.out.1.trans hE).setCell (.inr (by show w.heap.size ≤ w.heap.size + 2; omega)) _).trans' hE' (fun j hj => .inr (by have := (hD j hj).1; have := H0.out.1.size; omega))
  refine (callsIn_wide (n := 0)).1 (callsIn_of_wp_marks Try.func6 rfl trivial ?_ rfl)
  simp only [Try.ntmps6, List.size_toArray, List.length_cons, List.length_nil, Nat.reduceAdd, Nat.reduceSub, Array.replicate_succ, Array.replicate_zero, List.push_toArray, List.append_toArray, List.nil_append, List.cons_append]
  refine wpIn_wide.2 (wp_mono (Q := NoPanic (bodyPostM Fence.wide 0 Try.prog Try.f6 fun e w' => e = .returned (.bool true) ∧ Ext [] w w')) ?_ NoPanic.out)
  go_wp2_with ((with_reducible refine load25 hb2 ?_ ?_); exact rfl)
  refine (rc_unpack' F _ HF0.out).mono ?_
  rintro e W2 ⟨ao, n, cap, rfl, hE2, h5, h0'⟩
  have HU2 := Lib.hid (And.intro hE2 (And.intro h5 h0'))
  have b3 := hE2.at hb2 (by simp)
  clear hE2 h5 h0' hb2
  go_wp2_with ((with_reducible refine load25 b3 ?_ ?_); exact rfl)
  refine (ref_unpack F _ HF.out).mono ?_
  rintro e W3 ⟨bo, m, cap', b, rfl, hE3, hb⟩
  obtain ⟨er, her⟩ : ∃ er, unpE F = er := ⟨_, rfl⟩
  have HCOM : Hid (n = cntE F ∧ m = cntE F ∧ Puts W3 ao n (unpL F) ∧ Puts W3 bo m (unpL F) ∧ ((er = 0 ∧ b = true) ∨ (er = 5 ∧ b = false))) := by
    show n = cntE F ∧ m = cntE F ∧ Puts W3 ao n (unpL F) ∧ Puts W3 bo m (unpL F) ∧ ((er = 0 ∧ b = true) ∨ (er = 5 ∧ b = false))
    rw [← her]
    unfold cntE
    rcases hb with ⟨rfl, hu, rfl⟩ | ⟨rfl, hu, rfl, hp, _⟩
    · obtain ⟨rfl, rfl, rfl⟩ := HU2.out.2.1 hu
      rw [if_neg (by rw [hu]; decide)]
      exact ⟨rfl, rfl, .inl rfl, .inl rfl, .inr ⟨hu, rfl⟩⟩
    · obtain ⟨rfl, hp2⟩ := HU2.out.2.2.1 hu
      rw [if_pos hu]
      exact ⟨rfl, rfl, hp2.ext hE3, hp, .inl ⟨hu, rfl⟩⟩
  have HE3 := Lib.hid (HU2.out.1.trans hE3)
  have b4 := hE3.at b3 (by simp)
  clear hE3 hb b3 HU2
  rw [her]
  clear her
  obtain ⟨N, hN⟩ : ∃ N, N = cntE F := ⟨_, rfl⟩
  obtain ⟨rfl, rfl⟩ : n = N ∧ m = n := by rw [hN]; exact ⟨HCOM.out.1, HCOM.out.2.1.trans HCOM.out.1.symm⟩
  have HNN := Lib.hid hN
  clear hN
  go_wp2
  have hbm : (W3.alloc (.cells #[.slice bo m cap'] 22)).heap[W3.heap.size]? = some (.cells #[.slice bo m cap'] 22 (0, 0)) := World.alloc_heap_new _ _
  have hE4 := (Ext.refl [] W3).alloc (.cells #[.slice bo m cap'] 22)
  generalize hW4 : W3.alloc (.cells #[.slice bo m cap'] 22) = W4 at *
  have b5 := hE4.at b4 (by simp)
  have H4 := Lib.hid (And.intro hE4 (And.intro hbm b5))
  clear hW4 hE4 hbm b4 b5
  obtain ⟨A, hA⟩ : ∃ A : Array Value, arrF 24 F = A := ⟨_, rfl⟩
  rw [hA]
  go_cut [49] from 22 to 49 (fun c wx => c = .bool false ∧ Ext [] W4 wx)
  case first =>
    have hc : Ext [] W4 W4.drew := (Ext.refl [] W4).drew
    have cm := cell_of (j := 0) (v := .slice bo m cap') H4.out.2.1 rfl
    obtain ⟨kd, hkd⟩ : ∃ kd, kindE F = kd := ⟨_, rfl⟩
    have hK : Hid (∀ W', Calls Try.prog 16 #[.agg A] W' fun e w' => e = .returned (.int .i64 kd) ∧ Ext [] W' w') := by
      show ∀ W', _
      rw [← hA, ← hkd]
      exact fun W' => rc_kind F W' HF0.out
    have hK' : Hid (∀ W', Calls Try.prog 19 #[.agg A] W' fun e w' => e = .returned (.int .i64 kd) ∧ Ext [] W' w') := by
      show ∀ W', _
      rw [← hA, ← hkd]
      exact fun W' => ref_kind F W' HF.out
    have hS : Hid (∀ W', Ext [] W4 W' → Calls Try.prog 15 #[.slice ao m cap, .slice bo m cap'] W' fun e w' => e = .returned (.bool true) ∧ Ext [] W' w') := by
      show ∀ W', _
      intro W' hE
      have := ref_same ao bo m m cap cap' (unpL F) (unpL F) W' (HCOM.out.2.2.1.ext (H4.out.1.trans hE)) (HCOM.out.2.2.2.1.ext (H4.out.1.trans hE)) (by have := HNN.out; have := cntE_le F; omega) (by have := HNN.out; have := cntE_le F; omega)
      rwa [sameE_refl] at this
    have hSx : Hid (∀ W', Ext [] W4 W' → (rowOk W' (.pointer (some ⟨w.heap.size, 0, none⟩)) = true ∧ rowVal W' (.pointer (some ⟨w.heap.size, 0, none⟩)) = .agg A) ∧ W'.cell? ⟨W3.heap.size, 0, none⟩ = some (.slice bo m cap')) := by
      show ∀ W', _
      intro W' hE
      rw [← hA]
      exact ⟨row_of (hE.at H4.out.2.2 (by simp)), hE.cell (cell_of (j := 0) (v := .slice bo m cap') H4.out.2.1 rfl) (by simp)⟩
    have hcs := HCOM.out.2.2.2.2
    obtain ⟨⟨ro, rv⟩, cr⟩ := hSx.out _ hc
    have HC := Lib.hid hc
    clear hkd hA hc HCOM HNN HF HF0 HW finM H0 HE3 H4
    rcases hcs with ⟨rfl, rfl⟩ | ⟨rfl, rfl⟩
    all_goals
      first
        | go_region_law (go_simp; first
            | (go_at_call 16; refine (hK.out _).mono ?_; rintro e Wn ⟨rfl, hE⟩; replace HC := Lib.hid (HC.out.trans hE); clear hE ro rv cr; obtain ⟨⟨ro, rv⟩, cr⟩ := hSx.out _ HC.out)
            | (go_at_call 19; refine (hK'.out _).mono ?_; rintro e Wn ⟨rfl, hE⟩; replace HC := Lib.hid (HC.out.trans hE); clear hE ro rv cr; obtain ⟨⟨ro, rv⟩, cr⟩ := hSx.out _ HC.out)
            | (go_at_call 15; refine (hS.out _ HC.out).mono ?_; rintro e Wn ⟨rfl, hE⟩; replace HC := Lib.hid (HC.out.trans hE); clear hE)
            | (go_at_call 11; refine (rc_num _ _ (by omega)).mono ?_; rintro e w' ⟨rfl, rfl⟩))
        | fail
      all_goals
        go_wp2_with fail
        go_meet
        exact ⟨rfl, HC.out⟩
  case rest =>
    obtain ⟨rfl, hcx⟩ := hcut
    clear hA
    go_wp2
    have hX0 := hcx.alloc (.cells #[.int .i64 0] 3)
    have hT0 : (wc.alloc (.cells #[.int .i64 0] 3)).heap[wc.heap.size]? = some (.cells #[.int .i64 0] 3 (0, 0)) := World.alloc_heap_new _ _
    generalize hW50 : wc.alloc (.cells #[.int .i64 0] 3) = W50 at *
    obtain ⟨b50, hb50⟩ : ∃ b50, b50 = wc.heap.size := ⟨_, rfl⟩
    rw [← hb50] at hT0 ⊢
    have HX0 := Lib.hid hX0
    have HT0 := Lib.hid hT0
    clear hX0 hT0 hW50 hb50 hcx
    refine wp_loop_rounds 3 ?_
    rw [rounds_succ]
    have b2 := (HX0.out.alloc (.cells #[.int .i64 0] 3)).at H4.out.2.2 (by simp)
    have ct := cell_of (j := 0) (v := .int .i64 0) HT0.out rfl
    go_wp2_with ((with_reducible refine load25 b2 ?_ ?_); exact rfl)
    refine (rc_each F _).mono ?_
    rintro e w' ⟨rfl, rfl⟩
    have hE6 := ((Ext.refl [] W50).alloc (.cells #[.int .i64 0] 3)).alloc (.cells (arrF 24 F) 25)
    have hs6 : ((W50.alloc (.cells #[.int .i64 0] 3)).alloc (.cells (arrF 24 F) 25)).heap.size = W50.heap.size + 2 := by simp
    have hn6 : ((W50.alloc (.cells #[.int .i64 0] 3)).alloc (.cells (arrF 24 F) 25)).heap[W50.heap.size]? = some (.cells #[.int .i64 0] 3 (0, 0)) := block_al (World.alloc_heap_new _ _)
    have hB6 : ((W50.alloc (.cells #[.int .i64 0] 3)).alloc (.cells (arrF 24 F) 25)).heap[W50.heap.size + 1]? = some (.cells (arrF 24 F) 25 (0, 0)) := by
      have := World.alloc_heap_new (W50.alloc (.cells #[.int .i64 0] 3)) (.cells (arrF 24 F) 25)
      rwa [World.size_alloc] at this
    rw [show (W50.alloc (.cells #[.int .i64 0] 3)).heap.size = W50.heap.size + 1 from by simp]
    generalize hW6 : (W50.alloc (.cells #[.int .i64 0] 3)).alloc (.cells (arrF 24 F) 25) = W60 at *
    have H60 := Lib.hid (And.intro hE6 (And.intro hs6 (And.intro hn6 hB6)))
    clear hE6 hs6 hn6 hB6 hW6 b2 ct
    go_wp2
    refine wpIn_wide.1 (wp_range (gf := 27) (lb := #[.pointer (some ⟨W50.heap.size + 1, 0, none⟩)]) rfl (fun args w => enters_of Try.func27 (by kernel_rfl) rfl args w)
      (each_seq (W50.heap.size + 1) F HF0.out) (fun pre x h => by obtain ⟨k, _, _, rfl⟩ := enc_last h; rfl) [W50.heap.size]
      (fun mm pre W => mm = [W50.heap.size] ∧ Ext [W50.heap.size] W60 W ∧ W.heap[W50.heap.size]? = some (.cells #[.int .i64 pre.length] 3 (0, 0)) ∧ (pre.length = 0 ∨ (pre.length : Int) < k))
      (fun c W => c = .exit 2 ∧ ∃ j : Nat, 1 ≤ j ∧ j ≤ m ∧ k ≤ (j : Int) ∧ (j = 1 ∨ (j : Int) - 1 < k) ∧ Ext [W50.heap.size] W60 W ∧ W.heap[W50.heap.size]? = some (.cells #[.int .i64 j] 3 (0, 0))) ?_ ?_ ?_ ?_ ?_ ?_ ?_ ?_)
    · exact fun mm pre => (Steady.const _ _).and ((Steady.ext (Nat.le_refl _)).and ((Steady.block (.inr rfl)).and (Steady.const _ _)))
    · exact fun c => (Steady.const _ _).and (.ex fun j => (Steady.const _ _).and ((Steady.const _ _).and ((Steady.const _ _).and ((Steady.const _ _).and ((Steady.ext (Nat.le_refl _)).and (Steady.block (.inr rfl)))))))
    · rintro mm pre W ⟨_, hE, _, _⟩
      exact hE.at H60.out.2.2.2 (by simp)
    · intro j hj
      simp at hj
      have := H60.out.2.1
      omega
    · exact ⟨rfl, Ext.refl _ _, H60.out.2.2.1, .inl rfl⟩
    · rintro l mm pre x W hl ⟨rfl, hE, hnb, hlt0⟩ hok
      obtain ⟨i, hi, rfl, rfl⟩ := enc_last hok
      rw [← HNN.out] at hi
      rw [encN_len] at hnb hlt0
      have hsz4 : w.heap.size + 3 ≤ W4.heap.size := by have := lt_of_block H4.out.2.1; have := H0.out.2.2.2.2; have := HE3.out.size; have := H4.out.1.size; omega
      have hlt5 := HX0.out.size
      have EWX : Ext [] W4 W60 := HX0.out.trans H60.out.1
      have q3 : W.cell? ⟨w.heap.size + 1, 0, none⟩ = some (.int .i64 k) := hE.cell (EWX.cell (cell_of (j := 0) (v := .int .i64 k) (H4.out.1.at (HE3.out.at H0.out.2.2.1 (by simp)) (by simp)) rfl) (by simp)) (by simp; omega)
      have q7 : W.cell? ⟨W3.heap.size, 0, none⟩ = some (.slice bo m cap') := hE.cell (EWX.cell (cell_of (j := 0) (v := .slice bo m cap') H4.out.2.1 rfl) (by simp)) (by have := lt_of_block H4.out.2.1; simp; omega)
      have q9 : W.cell? ⟨b50, 0, none⟩ = some (.int .i64 0) := hE.cell (H60.out.1.cell (cell_of (j := 0) (v := .int .i64 0) HT0.out rfl) (by simp)) (by have := lt_of_block HT0.out; simp; omega)
      obtain ⟨b1, off, hbo, hcell⟩ : ∃ b1 off, bo = some ⟨b1, off, none⟩ ∧ W.cell? ⟨b1, off + i * 2, none⟩ = some (.int .i64 (unpL F i).1) ∧ W.cell? ⟨b1, off + i * 2 + 1, none⟩ = some (.int .u64 (unpL F i).2) := by
        rcases HCOM.out.2.2.2.1 with h | ⟨b1, off, h1, h2⟩
        · omega
        · have hlt := World.block_lt_of_cell? _ _ (h2 i hi).1
          have hlt : b1 < W3.heap.size := hlt
          have := H4.out.1.size
          exact ⟨b1, off, h1, hE.cell (EWX.cell (H4.out.1.cell (h2 i hi).1 (by simp)) (by simp)) (by simp; omega), hE.cell (EWX.cell (H4.out.1.cell (h2 i hi).2 (by simp)) (by simp)) (by simp; omega)⟩
      have HEW := Lib.hid (And.intro hE hnb)
      have hm16 : m ≤ 15 := by have := HNN.out; have := cntE_le F; omega
      subst hbo
      clear hE hnb hok EWX hlt5 hsz4
      intro K hK
      gi_wp2
      refine hK _ _ ((Ext.refl [] _).alloc _) ?_
      intro W' hC
      clear hK K
      have k2 := Steady.cell _ _ (cell_al (o := (.cells #[.int .i64 (unpL F i).1, .int .u64 (unpL F i).2] 47)) q7) hC
      have k3 := Steady.cell _ _ (cell_al (o := (.cells #[.int .i64 (unpL F i).1, .int .u64 (unpL F i).2] 47)) hcell.1) hC
      have k4 := Steady.cell _ _ (cell_al (o := (.cells #[.int .i64 (unpL F i).1, .int .u64 (unpL F i).2] 47)) hcell.2) hC
      have k5 := Steady.cell _ _ (cell_al (o := (.cells #[.int .i64 (unpL F i).1, .int .u64 (unpL F i).2] 47)) q9) hC
      have k6 := Steady.cell _ _ (cell_al (o := (.cells #[.int .i64 (unpL F i).1, .int .u64 (unpL F i).2] 47)) q3) hC
      have d1 := Steady.cell _ _ (cell_of (j := 0) (v := .int .i64 (unpL F i).1) (World.alloc_heap_new W (.cells #[.int .i64 (unpL F i).1, .int .u64 (unpL F i).2] 47)) rfl) hC
      have d2 := Steady.cell _ _ (cell_of (j := 1) (v := .int .u64 (unpL F i).2) (World.alloc_heap_new W (.cells #[.int .i64 (unpL F i).1, .int .u64 (unpL F i).2] 47)) rfl) hC
      have bn := hC.block _ _ (block_al (o := (.cells #[.int .i64 (unpL F i).1, .int .u64 (unpL F i).2] 47)) HEW.out.2) (.inr rfl)
      have k1 := cell_of (j := 0) (v := .int .i64 i) bn rfl
      have f1 := free_of bn 0
      have HN := Lib.hid bn
      have HCA := Lib.hid hC
      clear q7 q9 q3 hcell bn hC
      have hge : decide (m ≤ i) = false := by simp; omega
      have hne : ∀ w, (binOp .neq 47 (.agg #[.int .i64 (unpL F i).1, .int .u64 (unpL F i).2]) (.agg #[.int .i64 (unpL F i).1, .int .u64 (unpL F i).2])).run Try.prog w = .ok (.bool false) w := by
        intro w; have := nePut (unpL F i).1 (unpL F i).2 (unpL F i).1 (unpL F i).2 w; simpa using this
      have hE' := (Steady.ext (Nat.le_refl _)) _ _ (HEW.out.1.alloc (.cells #[.int .i64 (unpL F i).1, .int .u64 (unpL F i).2] 47)) HCA.out
      have HE' := Lib.hid hE'
      clear hE'
      have hne9 : b50 ≠ W50.heap.size := by have := lt_of_block HT0.out; omega
      have hne3 : w.heap.size + 1 ≠ W50.heap.size := by have := lt_of_block H4.out.2.1; have := H0.out.2.2.2.2; have := HE3.out.size; have := HX0.out.size; have := H4.out.1.size; omega
      gi_wp2
      refine wpIn_region_round_quiet _ rfl (by kernel_rfl) (by kernel_rfl) (by kernel_rfl) ?_
      repeat (gi_big_quiet_step (fail))
      refine wpQuietIn_nil ?_
      intro _ hw'
      obtain ⟨nq, hw''⟩ := hw'
      subst hw''
      by_cases hkb : k ≤ (i : Int) + 1
      · gi_wp2
        refine ⟨((Ext.refl _ W').drewN nq).setCell (.inl (by simp)) _, rfl, i + 1, by omega, by omega, by omega, ?_, (HE'.out.drewN nq).setCell (.inl (by simp)) _, ?_⟩
        · rcases hlt0 with h | h
          · exact .inl (by omega)
          · exact .inr (by omega)
        · exact cell1_set (w := W'.drewN nq) HN.out _
      · gi_wp2
        refine ⟨((Ext.refl _ W').drewN nq).setCell (.inl (by simp)) _, [W50.heap.size], Sub.refl _ _, rfl, (HE'.out.drewN nq).setCell (.inl (by simp)) _, ?_, ?_⟩
        · first | rw [List.length_append, encN_len] | rw [encN_len]
          exact cell1_set (w := W'.drewN nq) HN.out _
        · first | rw [List.length_append, encN_len] | rw [encN_len]
          first | omega | exact .inr (by simp; omega)
    · intro D0 mm xs W70 hD0 hx hi hdD
      obtain ⟨rfl, hE, hnb, hlt0⟩ := hi
      rw [show xs = encN (unpL F) (cntE F) from hx, encN_len, ← HNN.out] at hlt0
      rw [show xs = encN (unpL F) (cntE F) from hx, encN_len, ← HNN.out] at hnb
      obtain ⟨j, hj⟩ : ∃ j, j = m := ⟨_, rfl⟩
      rw [← hj] at hnb hlt0
      have hjm : (j : Int) = min (m : Int) (max 1 k) := by omega
      have hlt5 := HX0.out.size
      have hs6 := H60.out.2.1
      have EW : Ext [] W4 W70 := (HX0.out.trans H60.out.1).trans' hE (fun j hj => .inr (by simp at hj; omega))
      have hsz4 : w.heap.size + 3 ≤ W4.heap.size := by have := lt_of_block H4.out.2.1; have := H0.out.2.2.2.2; have := HE3.out.size; have := H4.out.1.size; omega
      have q3 : W70.cell? ⟨w.heap.size + 1, 0, none⟩ = some (.int .i64 k) := EW.cell (cell_of (j := 0) (v := .int .i64 k) (H4.out.1.at (HE3.out.at H0.out.2.2.1 (by simp)) (by simp)) rfl) (by simp)
      have q7 : W70.cell? ⟨W3.heap.size, 0, none⟩ = some (.slice bo m cap') := EW.cell (cell_of (j := 0) (v := .slice bo m cap') H4.out.2.1 rfl) (by simp)
      have q9 : W70.cell? ⟨b50, 0, none⟩ = some (.int .i64 0) := hE.cell (H60.out.1.cell (cell_of (j := 0) (v := .int .i64 0) HT0.out rfl) (by simp)) (by have := lt_of_block HT0.out; simp; omega)
      have qn := cell_of (j := 0) (v := .int .i64 j) hnb rfl
      have HM0 : Hid (∀ D ∈ [D0], w0.heap.size ≤ D ∧ W70.heap[D]? = some (.deferred (some []))) := by
        show ∀ D ∈ [D0], w0.heap.size ≤ D ∧ W70.heap[D]? = some (.deferred (some []))
        intro D' hD'
        obtain rfl : D' = D0 := by simpa using hD'
        exact ⟨by have := H0.out.2.2.2.2; have := HE3.out.size; have := H4.out.1.size; omega, hdD⟩
      have HX70 := Lib.hid EW
      clear hE hnb hdD EW hsz4 hlt5 hlt0
      clear hx
      obtain h1k | h1k : 1 < k ∨ k ≤ 1 := by omega
      all_goals
        go_wp2
        have hX1 : Ext [] W4 (W70.alloc (.cells #[.int .i64 1] 3)) := HX70.out.alloc _
        have hT1 : (W70.alloc (.cells #[.int .i64 1] 3)).heap[W70.heap.size]? = some (.cells #[.int .i64 1] 3 (0, 0)) := World.alloc_heap_new _ _
        have HM1 : Hid (∀ D ∈ [D0], w0.heap.size ≤ D ∧ (W70.alloc (.cells #[.int .i64 1] 3)).heap[D]? = some (.deferred (some []))) := by
          show ∀ D ∈ [D0], w0.heap.size ≤ D ∧ (W70.alloc (.cells #[.int .i64 1] 3)).heap[D]? = some (.deferred (some []))
          intro D' hD'
          have h1 := HM0.out D' hD'
          have h2 := lt_of_block h1.2
          exact ⟨h1.1, block_al h1.2⟩
        generalize hW51 : (W70.alloc (.cells #[.int .i64 1] 3)) = W51 at *
        obtain ⟨b51, hb51⟩ : ∃ b51, b51 = W70.heap.size := ⟨_, rfl⟩
        rw [← hb51] at hT1 ⊢
        have HX1 := Lib.hid hX1
        have HT1 := Lib.hid hT1
        clear hX1 hT1 hW51 hb51 q3 q7 q9 qn hjm
        rw [rounds_succ]
        have b2 := (HX1.out.alloc (.cells #[.int .i64 0] 3)).at H4.out.2.2 (by simp)
        have ct := cell_of (j := 0) (v := .int .i64 1) HT1.out rfl
        go_wp2_with ((with_reducible refine load25 b2 ?_ ?_); exact rfl)
        refine (rc_each F _).mono ?_
        rintro e w' ⟨rfl, rfl⟩
        have hE6 := ((Ext.refl [] W51).alloc (.cells #[.int .i64 0] 3)).alloc (.cells (arrF 24 F) 25)
        have hs6 : ((W51.alloc (.cells #[.int .i64 0] 3)).alloc (.cells (arrF 24 F) 25)).heap.size = W51.heap.size + 2 := by simp
        have hn6 : ((W51.alloc (.cells #[.int .i64 0] 3)).alloc (.cells (arrF 24 F) 25)).heap[W51.heap.size]? = some (.cells #[.int .i64 0] 3 (0, 0)) := block_al (World.alloc_heap_new _ _)
        have hB6 : ((W51.alloc (.cells #[.int .i64 0] 3)).alloc (.cells (arrF 24 F) 25)).heap[W51.heap.size + 1]? = some (.cells (arrF 24 F) 25 (0, 0)) := by
          have := World.alloc_heap_new (W51.alloc (.cells #[.int .i64 0] 3)) (.cells (arrF 24 F) 25)
          rwa [World.size_alloc] at this
        rw [show (W51.alloc (.cells #[.int .i64 0] 3)).heap.size = W51.heap.size + 1 from by simp]
        generalize hW6 : (W51.alloc (.cells #[.int .i64 0] 3)).alloc (.cells (arrF 24 F) 25) = W61 at *
        have H61 := Lib.hid (And.intro hE6 (And.intro hs6 (And.intro hn6 hB6)))
        clear hE6 hs6 hn6 hB6 hW6 b2 ct
        go_wp2
        refine wpIn_wide.1 (wp_range (gf := 27) (lb := #[.pointer (some ⟨W51.heap.size + 1, 0, none⟩)]) rfl (fun args w => enters_of Try.func27 (by kernel_rfl) rfl args w)
          (each_seq (W51.heap.size + 1) F HF0.out) (fun pre x h => by obtain ⟨k, _, _, rfl⟩ := enc_last h; rfl) [W51.heap.size]
          (fun mm pre W => mm = [W51.heap.size] ∧ Ext [W51.heap.size] W61 W ∧ W.heap[W51.heap.size]? = some (.cells #[.int .i64 pre.length] 3 (0, 0)))
          (fun _ _ => False) ?_ ?_ ?_ ?_ ?_ ?_ ?_ ?_)
        · exact fun mm pre => (Steady.const _ _).and ((Steady.ext (Nat.le_refl _)).and (Steady.block (.inr rfl)))
        · exact fun c => Steady.const _ _
        · rintro mm pre W ⟨_, hE, _⟩
          exact hE.at H61.out.2.2.2 (by simp)
        · intro j hj
          simp at hj
          have := H61.out.2.1
          omega
        · exact ⟨rfl, Ext.refl _ _, H61.out.2.2.1⟩
        · rintro l mm pre x W hl ⟨rfl, hE, hnb⟩ hok
          obtain ⟨i, hi, rfl, rfl⟩ := enc_last hok
          rw [← HNN.out] at hi
          rw [encN_len] at hnb
          have hsz4 : w.heap.size + 3 ≤ W4.heap.size := by have := lt_of_block H4.out.2.1; have := H0.out.2.2.2.2; have := HE3.out.size; have := H4.out.1.size; omega
          have hlt5 := HX1.out.size
          have EWX : Ext [] W4 W61 := HX1.out.trans H61.out.1
          have q3 : W.cell? ⟨w.heap.size + 1, 0, none⟩ = some (.int .i64 k) := hE.cell (EWX.cell (cell_of (j := 0) (v := .int .i64 k) (H4.out.1.at (HE3.out.at H0.out.2.2.1 (by simp)) (by simp)) rfl) (by simp)) (by simp; omega)
          have q7 : W.cell? ⟨W3.heap.size, 0, none⟩ = some (.slice bo m cap') := hE.cell (EWX.cell (cell_of (j := 0) (v := .slice bo m cap') H4.out.2.1 rfl) (by simp)) (by have := lt_of_block H4.out.2.1; simp; omega)
          have q9 : W.cell? ⟨b51, 0, none⟩ = some (.int .i64 1) := hE.cell (H61.out.1.cell (cell_of (j := 0) (v := .int .i64 1) HT1.out rfl) (by simp)) (by have := lt_of_block HT1.out; simp; omega)
          obtain ⟨b1, off, hbo, hcell⟩ : ∃ b1 off, bo = some ⟨b1, off, none⟩ ∧ W.cell? ⟨b1, off + i * 2, none⟩ = some (.int .i64 (unpL F i).1) ∧ W.cell? ⟨b1, off + i * 2 + 1, none⟩ = some (.int .u64 (unpL F i).2) := by
            rcases HCOM.out.2.2.2.1 with h | ⟨b1, off, h1, h2⟩
            · omega
            · have hlt := World.block_lt_of_cell? _ _ (h2 i hi).1
              have hlt : b1 < W3.heap.size := hlt
              have := H4.out.1.size
              exact ⟨b1, off, h1, hE.cell (EWX.cell (H4.out.1.cell (h2 i hi).1 (by simp)) (by simp)) (by simp; omega), hE.cell (EWX.cell (H4.out.1.cell (h2 i hi).2 (by simp)) (by simp)) (by simp; omega)⟩
          have HEW := Lib.hid (And.intro hE hnb)
          have hm16 : m ≤ 15 := by have := HNN.out; have := cntE_le F; omega
          subst hbo
          clear hE hnb hok EWX hlt5 hsz4
          intro K hK
          gi_wp2
          refine hK _ _ ((Ext.refl [] _).alloc _) ?_
          intro W' hC
          clear hK K
          have k2 := Steady.cell _ _ (cell_al (o := (.cells #[.int .i64 (unpL F i).1, .int .u64 (unpL F i).2] 47)) q7) hC
          have k3 := Steady.cell _ _ (cell_al (o := (.cells #[.int .i64 (unpL F i).1, .int .u64 (unpL F i).2] 47)) hcell.1) hC
          have k4 := Steady.cell _ _ (cell_al (o := (.cells #[.int .i64 (unpL F i).1, .int .u64 (unpL F i).2] 47)) hcell.2) hC
          have k5 := Steady.cell _ _ (cell_al (o := (.cells #[.int .i64 (unpL F i).1, .int .u64 (unpL F i).2] 47)) q9) hC
          have k6 := Steady.cell _ _ (cell_al (o := (.cells #[.int .i64 (unpL F i).1, .int .u64 (unpL F i).2] 47)) q3) hC
          have d1 := Steady.cell _ _ (cell_of (j := 0) (v := .int .i64 (unpL F i).1) (World.alloc_heap_new W (.cells #[.int .i64 (unpL F i).1, .int .u64 (unpL F i).2] 47)) rfl) hC
          have d2 := Steady.cell _ _ (cell_of (j := 1) (v := .int .u64 (unpL F i).2) (World.alloc_heap_new W (.cells #[.int .i64 (unpL F i).1, .int .u64 (unpL F i).2] 47)) rfl) hC
          have bn := hC.block _ _ (block_al (o := (.cells #[.int .i64 (unpL F i).1, .int .u64 (unpL F i).2] 47)) HEW.out.2) (.inr rfl)
          have k1 := cell_of (j := 0) (v := .int .i64 i) bn rfl
          have f1 := free_of bn 0
          have HN := Lib.hid bn
          have HCA := Lib.hid hC
          clear q7 q9 q3 hcell bn hC
          have hge : decide (m ≤ i) = false := by simp; omega
          have hne : ∀ w, (binOp .neq 47 (.agg #[.int .i64 (unpL F i).1, .int .u64 (unpL F i).2]) (.agg #[.int .i64 (unpL F i).1, .int .u64 (unpL F i).2])).run Try.prog w = .ok (.bool false) w := by
            intro w; have := nePut (unpL F i).1 (unpL F i).2 (unpL F i).1 (unpL F i).2 w; simpa using this
          have hE' := (Steady.ext (Nat.le_refl _)) _ _ (HEW.out.1.alloc (.cells #[.int .i64 (unpL F i).1, .int .u64 (unpL F i).2] 47)) HCA.out
          have HE' := Lib.hid hE'
          clear hE'
          have hne9 : b51 ≠ W51.heap.size := by have := lt_of_block HT1.out; omega
          have hne3 : w.heap.size + 1 ≠ W51.heap.size := by have := lt_of_block H4.out.2.1; have := H0.out.2.2.2.2; have := HE3.out.size; have := HX1.out.size; have := H4.out.1.size; omega
          gi_wp2
          refine wpIn_region_round_quiet _ rfl (by kernel_rfl) (by kernel_rfl) (by kernel_rfl) ?_
          repeat (gi_big_quiet_step (fail))
          refine wpQuietIn_nil ?_
          intro _ hw'
          obtain ⟨nq, hw''⟩ := hw'
          subst hw''
          gi_wp2
          refine ⟨((Ext.refl _ W').drewN nq).setCell (.inl (by simp)) _, [W51.heap.size], Sub.refl _ _, rfl, (HE'.out.drewN nq).setCell (.inl (by simp)) _, ?_⟩
          first | rw [List.length_append, encN_len] | rw [encN_len]
          exact cell1_set (w := W'.drewN nq) HN.out _
        · intro D1 mm xs W71 hD1 hx hi hdD
          obtain ⟨rfl, hE, hnb⟩ := hi
          rw [show xs = encN (unpL F) (cntE F) from hx, encN_len, ← HNN.out] at hnb
          obtain ⟨j, hj⟩ : ∃ j, j = m := ⟨_, rfl⟩
          rw [← hj] at hnb
          have hlt5 := HX1.out.size
          have hs6 := H61.out.2.1
          have EW : Ext [] W4 W71 := (HX1.out.trans H61.out.1).trans' hE (fun j hj => .inr (by simp at hj; omega))
          have hsz4 : w.heap.size + 3 ≤ W4.heap.size := by have := lt_of_block H4.out.2.1; have := H0.out.2.2.2.2; have := HE3.out.size; have := H4.out.1.size; omega
          have q3 : W71.cell? ⟨w.heap.size + 1, 0, none⟩ = some (.int .i64 k) := EW.cell (cell_of (j := 0) (v := .int .i64 k) (H4.out.1.at (HE3.out.at H0.out.2.2.1 (by simp)) (by simp)) rfl) (by simp)
          have q7 : W71.cell? ⟨W3.heap.size, 0, none⟩ = some (.slice bo m cap') := EW.cell (cell_of (j := 0) (v := .slice bo m cap') H4.out.2.1 rfl) (by simp)
          have q9 : W71.cell? ⟨b51, 0, none⟩ = some (.int .i64 1) := hE.cell (H61.out.1.cell (cell_of (j := 0) (v := .int .i64 1) HT1.out rfl) (by simp)) (by have := lt_of_block HT1.out; simp; omega)
          have qn := cell_of (j := 0) (v := .int .i64 j) hnb rfl
          have hd0 := HM1.out D0 (by simp)
          have hd0' := lt_of_block hd0.2
          have HM2 : Hid ((∀ D ∈ [D1, D0], w0.heap.size ≤ D ∧ W71.heap[D]? = some (.deferred (some []))) ∧ [D1, D0].Nodup) := by
            show (∀ D ∈ [D1, D0], w0.heap.size ≤ D ∧ W71.heap[D]? = some (.deferred (some []))) ∧ [D1, D0].Nodup
            refine ⟨?_, by simp; omega⟩
            intro D' hD'
            rcases List.mem_cons.1 hD' with rfl | h
            · exact ⟨by have := H0.out.2.2.2.2; have := HE3.out.size; have := H4.out.1.size; omega, hdD⟩
            · obtain rfl : D' = D0 := by simpa using h
              exact ⟨hd0.1, hE.at (H61.out.1.at hd0.2 (by simp)) (by simp; omega)⟩
          have HX71 := Lib.hid EW
          clear hE hnb hdD EW hsz4 hlt5
          subst hj
          go_wp2
          have ct2 : (W71.alloc (.cells #[.int .i64 2] 3)).cell? ⟨W71.heap.size, 0, none⟩ = some (.int .i64 2) := cell_of (World.alloc_heap_new _ _) rfl
          clear q3 q7 q9 qn
          rw [rounds_succ]
          go_wp2_with fail
          refine (HW.out _).mono ?_
          rintro e W8 ⟨rfl, hE8⟩
          have EF := Lib.hid (HE3.out.trans (H4.out.1.trans ((HX71.out.alloc (.cells #[.int .i64 2] 3)).trans hE8)))
          have b4 := EF.out.at H0.out.2.2.2.1 (by simp)
          have c4 : W8.cell? ⟨w.heap.size + 1 + 1, 0, none⟩ = some (.bool false) := cell_of b4 rfl
          have f4 : W8.frozen? ⟨w.heap.size + 1 + 1, 0, none⟩ = false := free_of b4 0
          clear b4 ct2
          have HE8 := Lib.hid hE8
          clear hE8
          go_wp2
          exact finM.out [D1, D0] _ W8 rfl EF.out (fun D hD => ⟨(HM2.out.1 D hD).1, HE8.out.at (block_al (HM2.out.1 D hD).2) (by simp)⟩) HM2.out.2
        · intro D1 c W71 hD1 hi hdD
          exact hi.elim
    · intro D0 c W70 hD0 hi hdD
      obtain ⟨rfl, j, h1, h2, h3, h4, hE, hnb⟩ := hi
      refine wpIn_exit ?_
      have hlt5 := HX0.out.size
      have hs6 := H60.out.2.1
      have EW : Ext [] W4 W70 := (HX0.out.trans H60.out.1).trans' hE (fun j hj => .inr (by simp at hj; omega))
      have hsz4 : w.heap.size + 3 ≤ W4.heap.size := by have := lt_of_block H4.out.2.1; have := H0.out.2.2.2.2; have := HE3.out.size; have := H4.out.1.size; omega
      have q3 : W70.cell? ⟨w.heap.size + 1, 0, none⟩ = some (.int .i64 k) := EW.cell (cell_of (j := 0) (v := .int .i64 k) (H4.out.1.at (HE3.out.at H0.out.2.2.1 (by simp)) (by simp)) rfl) (by simp)
      have q7 : W70.cell? ⟨W3.heap.size, 0, none⟩ = some (.slice bo m cap') := EW.cell (cell_of (j := 0) (v := .slice bo m cap') H4.out.2.1 rfl) (by simp)
      have q9 : W70.cell? ⟨b50, 0, none⟩ = some (.int .i64 0) := hE.cell (H60.out.1.cell (cell_of (j := 0) (v := .int .i64 0) HT0.out rfl) (by simp)) (by have := lt_of_block HT0.out; simp; omega)
      have qn := cell_of (j := 0) (v := .int .i64 j) hnb rfl
      have HM0 : Hid (∀ D ∈ [D0], w0.heap.size ≤ D ∧ W70.heap[D]? = some (.deferred (some []))) := by
        show ∀ D ∈ [D0], w0.heap.size ≤ D ∧ W70.heap[D]? = some (.deferred (some []))
        intro D' hD'
        obtain rfl : D' = D0 := by simpa using hD'
        exact ⟨by have := H0.out.2.2.2.2; have := HE3.out.size; have := H4.out.1.size; omega, hdD⟩
      have HX70 := Lib.hid EW
      clear hE hnb hdD EW hsz4 hlt5
      obtain ⟨h1k, hkj, hkm⟩ | ⟨h1k, hkj, hkm⟩ | ⟨h1k, hkj, hkm⟩ | ⟨h1k, hkj, hkm⟩ : (1 < k ∧ (j : Int) = k ∧ k < (m : Int)) ∨ (1 < k ∧ (j : Int) = k ∧ (m : Int) = k) ∨ (k ≤ 1 ∧ (j : Int) = 1 ∧ 1 < (m : Int)) ∨ (k ≤ 1 ∧ (j : Int) = 1 ∧ (m : Int) = 1) := by omega
      all_goals
        go_wp2
        have hX1 : Ext [] W4 (W70.alloc (.cells #[.int .i64 1] 3)) := HX70.out.alloc _
        have hT1 : (W70.alloc (.cells #[.int .i64 1] 3)).heap[W70.heap.size]? = some (.cells #[.int .i64 1] 3 (0, 0)) := World.alloc_heap_new _ _
        have HM1 : Hid (∀ D ∈ [D0], w0.heap.size ≤ D ∧ (W70.alloc (.cells #[.int .i64 1] 3)).heap[D]? = some (.deferred (some []))) := by
          show ∀ D ∈ [D0], w0.heap.size ≤ D ∧ (W70.alloc (.cells #[.int .i64 1] 3)).heap[D]? = some (.deferred (some []))
          intro D' hD'
          have h1 := HM0.out D' hD'
          have h2 := lt_of_block h1.2
          exact ⟨h1.1, block_al h1.2⟩
        generalize hW51 : (W70.alloc (.cells #[.int .i64 1] 3)) = W51 at *
        obtain ⟨b51, hb51⟩ : ∃ b51, b51 = W70.heap.size := ⟨_, rfl⟩
        rw [← hb51] at hT1 ⊢
        have HX1 := Lib.hid hX1
        have HT1 := Lib.hid hT1
        clear hX1 hT1 hW51 hb51 q3 q7 q9 qn h1 h2 h3 h4 hkj hkm
        rw [rounds_succ]
        have b2 := (HX1.out.alloc (.cells #[.int .i64 0] 3)).at H4.out.2.2 (by simp)
        have ct := cell_of (j := 0) (v := .int .i64 1) HT1.out rfl
        go_wp2_with ((with_reducible refine load25 b2 ?_ ?_); exact rfl)
        refine (rc_each F _).mono ?_
        rintro e w' ⟨rfl, rfl⟩
        have hE6 := ((Ext.refl [] W51).alloc (.cells #[.int .i64 0] 3)).alloc (.cells (arrF 24 F) 25)
        have hs6 : ((W51.alloc (.cells #[.int .i64 0] 3)).alloc (.cells (arrF 24 F) 25)).heap.size = W51.heap.size + 2 := by simp
        have hn6 : ((W51.alloc (.cells #[.int .i64 0] 3)).alloc (.cells (arrF 24 F) 25)).heap[W51.heap.size]? = some (.cells #[.int .i64 0] 3 (0, 0)) := block_al (World.alloc_heap_new _ _)
        have hB6 : ((W51.alloc (.cells #[.int .i64 0] 3)).alloc (.cells (arrF 24 F) 25)).heap[W51.heap.size + 1]? = some (.cells (arrF 24 F) 25 (0, 0)) := by
          have := World.alloc_heap_new (W51.alloc (.cells #[.int .i64 0] 3)) (.cells (arrF 24 F) 25)
          rwa [World.size_alloc] at this
        rw [show (W51.alloc (.cells #[.int .i64 0] 3)).heap.size = W51.heap.size + 1 from by simp]
        generalize hW6 : (W51.alloc (.cells #[.int .i64 0] 3)).alloc (.cells (arrF 24 F) 25) = W61 at *
        have H61 := Lib.hid (And.intro hE6 (And.intro hs6 (And.intro hn6 hB6)))
        clear hE6 hs6 hn6 hB6 hW6 b2 ct
        go_wp2
        refine wpIn_wide.1 (wp_range (gf := 27) (lb := #[.pointer (some ⟨W51.heap.size + 1, 0, none⟩)]) rfl (fun args w => enters_of Try.func27 (by kernel_rfl) rfl args w)
          (each_seq (W51.heap.size + 1) F HF0.out) (fun pre x h => by obtain ⟨k, _, _, rfl⟩ := enc_last h; rfl) [W51.heap.size]
          (fun mm pre W => mm = [W51.heap.size] ∧ Ext [W51.heap.size] W61 W ∧ W.heap[W51.heap.size]? = some (.cells #[.int .i64 pre.length] 3 (0, 0)))
          (fun _ _ => False) ?_ ?_ ?_ ?_ ?_ ?_ ?_ ?_)
        · exact fun mm pre => (Steady.const _ _).and ((Steady.ext (Nat.le_refl _)).and (Steady.block (.inr rfl)))
        · exact fun c => Steady.const _ _
        · rintro mm pre W ⟨_, hE, _⟩
          exact hE.at H61.out.2.2.2 (by simp)
        · intro j hj
          simp at hj
          have := H61.out.2.1
          omega
        · exact ⟨rfl, Ext.refl _ _, H61.out.2.2.1⟩
        · rintro l mm pre x W hl ⟨rfl, hE, hnb⟩ hok
          obtain ⟨i, hi, rfl, rfl⟩ := enc_last hok
          rw [← HNN.out] at hi
          rw [encN_len] at hnb
          have hsz4 : w.heap.size + 3 ≤ W4.heap.size := by have := lt_of_block H4.out.2.1; have := H0.out.2.2.2.2; have := HE3.out.size; have := H4.out.1.size; omega
          have hlt5 := HX1.out.size
          have EWX : Ext [] W4 W61 := HX1.out.trans H61.out.1
          have q3 : W.cell? ⟨w.heap.size + 1, 0, none⟩ = some (.int .i64 k) := hE.cell (EWX.cell (cell_of (j := 0) (v := .int .i64 k) (H4.out.1.at (HE3.out.at H0.out.2.2.1 (by simp)) (by simp)) rfl) (by simp)) (by simp; omega)
          have q7 : W.cell? ⟨W3.heap.size, 0, none⟩ = some (.slice bo m cap') := hE.cell (EWX.cell (cell_of (j := 0) (v := .slice bo m cap') H4.out.2.1 rfl) (by simp)) (by have := lt_of_block H4.out.2.1; simp; omega)
          have q9 : W.cell? ⟨b51, 0, none⟩ = some (.int .i64 1) := hE.cell (H61.out.1.cell (cell_of (j := 0) (v := .int .i64 1) HT1.out rfl) (by simp)) (by have := lt_of_block HT1.out; simp; omega)
          obtain ⟨b1, off, hbo, hcell⟩ : ∃ b1 off, bo = some ⟨b1, off, none⟩ ∧ W.cell? ⟨b1, off + i * 2, none⟩ = some (.int .i64 (unpL F i).1) ∧ W.cell? ⟨b1, off + i * 2 + 1, none⟩ = some (.int .u64 (unpL F i).2) := by
            rcases HCOM.out.2.2.2.1 with h | ⟨b1, off, h1, h2⟩
            · omega
            · have hlt := World.block_lt_of_cell? _ _ (h2 i hi).1
              have hlt : b1 < W3.heap.size := hlt
              have := H4.out.1.size
              exact ⟨b1, off, h1, hE.cell (EWX.cell (H4.out.1.cell (h2 i hi).1 (by simp)) (by simp)) (by simp; omega), hE.cell (EWX.cell (H4.out.1.cell (h2 i hi).2 (by simp)) (by simp)) (by simp; omega)⟩
          have HEW := Lib.hid (And.intro hE hnb)
          have hm16 : m ≤ 15 := by have := HNN.out; have := cntE_le F; omega
          subst hbo
          clear hE hnb hok EWX hlt5 hsz4
          intro K hK
          gi_wp2
          refine hK _ _ ((Ext.refl [] _).alloc _) ?_
          intro W' hC
          clear hK K
          have k2 := Steady.cell _ _ (cell_al (o := (.cells #[.int .i64 (unpL F i).1, .int .u64 (unpL F i).2] 47)) q7) hC
          have k3 := Steady.cell _ _ (cell_al (o := (.cells #[.int .i64 (unpL F i).1, .int .u64 (unpL F i).2] 47)) hcell.1) hC
          have k4 := Steady.cell _ _ (cell_al (o := (.cells #[.int .i64 (unpL F i).1, .int .u64 (unpL F i).2] 47)) hcell.2) hC
          have k5 := Steady.cell _ _ (cell_al (o := (.cells #[.int .i64 (unpL F i).1, .int .u64 (unpL F i).2] 47)) q9) hC
          have k6 := Steady.cell _ _ (cell_al (o := (.cells #[.int .i64 (unpL F i).1, .int .u64 (unpL F i).2] 47)) q3) hC
          have d1 := Steady.cell _ _ (cell_of (j := 0) (v := .int .i64 (unpL F i).1) (World.alloc_heap_new W (.cells #[.int .i64 (unpL F i).1, .int .u64 (unpL F i).2] 47)) rfl) hC
          have d2 := Steady.cell _ _ (cell_of (j := 1) (v := .int .u64 (unpL F i).2) (World.alloc_heap_new W (.cells #[.int .i64 (unpL F i).1, .int .u64 (unpL F i).2] 47)) rfl) hC
          have bn := hC.block _ _ (block_al (o := (.cells #[.int .i64 (unpL F i).1, .int .u64 (unpL F i).2] 47)) HEW.out.2) (.inr rfl)
          have k1 := cell_of (j := 0) (v := .int .i64 i) bn rfl
          have f1 := free_of bn 0
          have HN := Lib.hid bn
          have HCA := Lib.hid hC
          clear q7 q9 q3 hcell bn hC
          have hge : decide (m ≤ i) = false := by simp; omega
          have hne : ∀ w, (binOp .neq 47 (.agg #[.int .i64 (unpL F i).1, .int .u64 (unpL F i).2]) (.agg #[.int .i64 (unpL F i).1, .int .u64 (unpL F i).2])).run Try.prog w = .ok (.bool false) w := by
            intro w; have := nePut (unpL F i).1 (unpL F i).2 (unpL F i).1 (unpL F i).2 w; simpa using this
          have hE' := (Steady.ext (Nat.le_refl _)) _ _ (HEW.out.1.alloc (.cells #[.int .i64 (unpL F i).1, .int .u64 (unpL F i).2] 47)) HCA.out
          have HE' := Lib.hid hE'
          clear hE'
          have hne9 : b51 ≠ W51.heap.size := by have := lt_of_block HT1.out; omega
          have hne3 : w.heap.size + 1 ≠ W51.heap.size := by have := lt_of_block H4.out.2.1; have := H0.out.2.2.2.2; have := HE3.out.size; have := HX1.out.size; have := H4.out.1.size; omega
          gi_wp2
          refine wpIn_region_round_quiet _ rfl (by kernel_rfl) (by kernel_rfl) (by kernel_rfl) ?_
          repeat (gi_big_quiet_step (fail))
          refine wpQuietIn_nil ?_
          intro _ hw'
          obtain ⟨nq, hw''⟩ := hw'
          subst hw''
          gi_wp2
          refine ⟨((Ext.refl _ W').drewN nq).setCell (.inl (by simp)) _, [W51.heap.size], Sub.refl _ _, rfl, (HE'.out.drewN nq).setCell (.inl (by simp)) _, ?_⟩
          first | rw [List.length_append, encN_len] | rw [encN_len]
          exact cell1_set (w := W'.drewN nq) HN.out _
        · intro D1 mm xs W71 hD1 hx hi hdD
          obtain ⟨rfl, hE, hnb⟩ := hi
          rw [show xs = encN (unpL F) (cntE F) from hx, encN_len, ← HNN.out] at hnb
          obtain ⟨j, hj⟩ : ∃ j, j = m := ⟨_, rfl⟩
          rw [← hj] at hnb
          have hlt5 := HX1.out.size
          have hs6 := H61.out.2.1
          have EW : Ext [] W4 W71 := (HX1.out.trans H61.out.1).trans' hE (fun j hj => .inr (by simp at hj; omega))
          have hsz4 : w.heap.size + 3 ≤ W4.heap.size := by have := lt_of_block H4.out.2.1; have := H0.out.2.2.2.2; have := HE3.out.size; have := H4.out.1.size; omega
          have q3 : W71.cell? ⟨w.heap.size + 1, 0, none⟩ = some (.int .i64 k) := EW.cell (cell_of (j := 0) (v := .int .i64 k) (H4.out.1.at (HE3.out.at H0.out.2.2.1 (by simp)) (by simp)) rfl) (by simp)
          have q7 : W71.cell? ⟨W3.heap.size, 0, none⟩ = some (.slice bo m cap') := EW.cell (cell_of (j := 0) (v := .slice bo m cap') H4.out.2.1 rfl) (by simp)
          have q9 : W71.cell? ⟨b51, 0, none⟩ = some (.int .i64 1) := hE.cell (H61.out.1.cell (cell_of (j := 0) (v := .int .i64 1) HT1.out rfl) (by simp)) (by have := lt_of_block HT1.out; simp; omega)
          have qn := cell_of (j := 0) (v := .int .i64 j) hnb rfl
          have hd0 := HM1.out D0 (by simp)
          have hd0' := lt_of_block hd0.2
          have HM2 : Hid ((∀ D ∈ [D1, D0], w0.heap.size ≤ D ∧ W71.heap[D]? = some (.deferred (some []))) ∧ [D1, D0].Nodup) := by
            show (∀ D ∈ [D1, D0], w0.heap.size ≤ D ∧ W71.heap[D]? = some (.deferred (some []))) ∧ [D1, D0].Nodup
            refine ⟨?_, by simp; omega⟩
            intro D' hD'
            rcases List.mem_cons.1 hD' with rfl | h
            · exact ⟨by have := H0.out.2.2.2.2; have := HE3.out.size; have := H4.out.1.size; omega, hdD⟩
            · obtain rfl : D' = D0 := by simpa using h
              exact ⟨hd0.1, hE.at (H61.out.1.at hd0.2 (by simp)) (by simp; omega)⟩
          have HX71 := Lib.hid EW
          clear hE hnb hdD EW hsz4 hlt5
          subst hj
          go_wp2
          have ct2 : (W71.alloc (.cells #[.int .i64 2] 3)).cell? ⟨W71.heap.size, 0, none⟩ = some (.int .i64 2) := cell_of (World.alloc_heap_new _ _) rfl
          clear q3 q7 q9 qn
          rw [rounds_succ]
          go_wp2_with fail
          refine (HW.out _).mono ?_
          rintro e W8 ⟨rfl, hE8⟩
          have EF := Lib.hid (HE3.out.trans (H4.out.1.trans ((HX71.out.alloc (.cells #[.int .i64 2] 3)).trans hE8)))
          have b4 := EF.out.at H0.out.2.2.2.1 (by simp)
          have c4 : W8.cell? ⟨w.heap.size + 1 + 1, 0, none⟩ = some (.bool false) := cell_of b4 rfl
          have f4 : W8.frozen? ⟨w.heap.size + 1 + 1, 0, none⟩ = false := free_of b4 0
          clear b4 ct2
          have HE8 := Lib.hid hE8
          clear hE8
          go_wp2
          exact finM.out [D1, D0] _ W8 rfl EF.out (fun D hD => ⟨(HM2.out.1 D hD).1, HE8.out.at (block_al (HM2.out.1 D hD).2) (by simp)⟩) HM2.out.2
        · intro D1 c W71 hD1 hi hdD
          exact hi.elim
end Go.Proofs.Yteaedcjnfigigaa
