/- The walk of the law EpochPlays (printed by wip/mkEpW.py). -/
import Derived.Test.YtgpoplnfhlfogaaEpV
import Derived.Deep.CutRange
namespace Go.Proofs.Ytgpoplnfhlfogaa
open Go Go.RowKit Go.Shelf
attribute [local go_sem] Oper.semAt_some
attribute [local go_sem ↓] wp_loadC wp_storeC exec_loadC
attribute [local go_sem] rowB_ptr rowCs_agg aggOk_ref rowOk_drew rowVal_drew rowOk_drewN rowVal_drewN

/-- a clock beside the document's -/
structure CSt (w wr : World) (c m g : Nat) (now : Int) (l : Ents) (j : Nat) : Prop where
  clk : Clk wr c m now l
  ok : COk now l
  want : wr.heap[g]? = some (.cells (refC now (pinN l)) 92 (0, 0))
  res : wr.heap[w.heap.size]? = some (.cells #[.bool false] 4 (0, 0))
  ext : Ext [] w wr
  low : now ≤ j
  lo : w.heap.size < c ∧ w.heap.size < m ∧ w.heap.size < g
theorem CSt.ext1 {w wr w' : World} {c m g j : Nat} {now : Int} {l : Ents} (h : CSt w wr c m g now l j) (hE : Ext [] wr w') : CSt w w' c m g now l j :=
  ⟨h.clk.ext hE (by simp) (by simp), h.ok, hE.at h.want (by simp), hE.at h.res (by simp), h.ext.trans hE, h.low, h.lo⟩
theorem CSt.cg {w wr : World} {c m g j : Nat} {now : Int} {l : Ents} (h : CSt w wr c m g now l j) : g ≠ c ∧ g ≠ m ∧ w.heap.size ≠ c ∧ w.heap.size ≠ m := by
  refine ⟨fun e => ?_, fun e => ?_, by have := h.lo; omega, by have := h.lo; omega⟩
  · have h1 := h.want
    rw [e, h.clk.1] at h1
    simp at h1
  · exact absurd e.symm (h.clk.2.notcell (a := ⟨g, 0, none⟩) (cell_of (j := 0) h.want rfl))
/-- behind act, its answer laid into block b -/
structure AfterAct (wr wx : World) (c m : Nat) (n' : Int) (l' : Ents) (c' m' b : Nat) : Prop where
  ext : Ext [c, m] wr wx
  clk : Clk wx c' m' n' l'
  row : wx.heap[b]? = some (.cells (refC n' (pinN l')) 92 (0, 0))
  hb : wr.heap.size ≤ b
  new : (c' = c ∧ m' = m) ∨ (wr.heap.size ≤ c' ∧ wr.heap.size ≤ m')
theorem AfterAct.mk' {wr W : World} {c m c' m' b : Nat} {n' a : Int} {l' : Ents} {F : Nat → Int} (hE : Ext [c, m] wr W) (hc : Clk W c' m' n' l') (hz : W.heap[b]? = some (.cells (refC a F) 92 (0, 0))) (hb : wr.heap.size ≤ b) (hnew : (c' = c ∧ m' = m) ∨ (wr.heap.size ≤ c' ∧ wr.heap.size ≤ m')) :
    AfterAct wr (W.setRow b (refC n' (pinN l'))) c m n' l' c' m' b := by
  have hcb : c' ≠ b := fun e => by
    have h1 := hc.1
    rw [e, hz] at h1
    simp at h1
  have hmb : m' ≠ b := fun e => absurd e (hc.2.notcell (a := ⟨b, 0, none⟩) (cell_of (j := 0) hz rfl))
  have hE2 : Ext [b] W (W.setRow b (refC n' (pinN l'))) := ext_setRow (Ext.refl _ _) (.inl (by simp)) _
  exact ⟨hE.trans' hE2 (fun q hq => .inr (by simp at hq; omega)), hc.ext hE2 (by simp; omega) (by simp; omega), setRow_ref hz, hb, hnew⟩
theorem CSt.act {w wr wx : World} {c m g j c' m' b : Nat} {now n' : Int} {l l' : Ents} (h : CSt w wr c m g now l j) (ha : AfterAct wr wx c m n' l' c' m' b) (hok : COk n' l') (hn : n' ≤ now + 1) : CSt w ((wx.drew).setRow g (refC n' (pinN l'))) c' m' g n' l' (j + 1) := by
  obtain ⟨h1, h2, h3, h4⟩ := h.cg
  have hgl := lt_of_block h.want
  have hrl := lt_of_block h.res
  have hlo := h.lo
  have hlow := h.low
  have hE2 : Ext [g] wx ((wx.drew).setRow g (refC n' (pinN l'))) := ext_setRow (Ext.refl _ _).drew (.inl (by simp)) _
  have hg := ha.ext.at h.want (by simp; omega)
  have hnew := ha.new
  have hcg : c' ≠ g ∧ m' ≠ g := by omega
  refine ⟨ha.clk.ext hE2 (by simp; omega) (by simp; omega), hok, setRow_ref (w := World.drew wx) hg, hE2.at (ha.ext.at h.res (by simp; omega)) (by simp; omega), (h.ext.trans' ha.ext (fun q hq => .inr (by simp at hq; omega))).trans' hE2 (fun q hq => .inr (by simp at hq; omega)), by omega, by omega⟩

set_option maxRecDepth 100000 in
set_option maxHeartbeats 8000000 in
theorem ep_plays (ao : Option Addr) (n cap : Nat) (A : Nat → Int × Int) (w : World) (hp : Pairs w ao n A) (hn : n ≤ 9223372036854775807) :
    Calls Try.prog 10 #[.slice ao n cap] w fun e w' => e = .returned (.bool true) ∧ Ext [] w w' := by
  have HW := Lib.hid law14_works
  have HP := Lib.hid hp
  clear hp
  have fin : Hid (∀ (Ds : List Nat) (W : World) (x : Value), (∀ D ∈ Ds, W.heap[D]? = some (.deferred (some [])) ∧ w.heap.size < D) → Ds.Nodup → W.heap[w.heap.size]? = some (.cells #[x] 4 (0, 0)) → Ext [] w W → ∀ tmps : Array Value, tmps.getD 2 undef = .pointer (some ⟨w.heap.size, 0, none⟩) →
      LeavesInM Fence.wide 0 Try.prog Try.f10 tmps (fun e w' => e = .returned (.bool true) ∧ Ext [] w w') (Ds.map fun D => { target := .collected D, args := #[] }) .returning (W.setCell ⟨w.heap.size, 0, none⟩ (.bool true))) := by
    intro Ds W x hD hnd hb hE tmps ht
    obtain ⟨W5, hW5⟩ : ∃ W5, W5 = W.setCell ⟨w.heap.size, 0, none⟩ (.bool true) := ⟨_, rfl⟩
    have b5 : W5.heap[w.heap.size]? = some (.cells #[.bool true] 4 (0, 0)) := by rw [hW5]; exact cell1_set hb _
    have e5 : Ext [] w W5 := by rw [hW5]; exact hE.setCell (.inr (by simp)) _
    have d5 : ∀ D ∈ Ds, W5.heap[D]? = some (.deferred (some [])) := fun D hd => by rw [hW5]; exact block_sc (show D ≠ w.heap.size by have := (hD D hd).2; omega) (hD D hd).1
    rw [← hW5]
    exact leaves_marks (v := .bool true) Ds W5 d5 hnd (fun w' hE' => ⟨results_cellb Try.results10 _ _ ⟨w.heap.size, 0, none⟩ _ (by kernel_rfl) ht (hE'.cell (cell_of (j := 0) b5 rfl) (fun hm => by have := (hD _ hm).2; simp at this)), rfl, e5.trans' hE' (fun j hj => .inr (by have := (hD j hj).2; omega))⟩)
  refine (callsIn_wide (n := 0)).1 (callsIn_of_wp_marks Try.func10 rfl trivial ?_ rfl)
  simp only [Try.ntmps10, List.size_toArray, List.length_cons, List.length_nil, Nat.reduceAdd, Nat.reduceSub, Array.replicate_succ, Array.replicate_zero, List.push_toArray, List.append_toArray, List.nil_append, List.cons_append]
  refine wpIn_wide.2 (wp_mono (Q := NoPanic (bodyPostM Fence.wide 0 Try.prog Try.f10 fun e w' => e = .returned (.bool true) ∧ Ext [] w w')) ?_ NoPanic.out)
  by_cases hbig : 60 < n
  · have hd2 : decide ((60 : Int) < (n : Int)) = true := by simp; omega
    go_wp2_with fail
    refine (HW.out _).mono ?_
    rintro e w2 ⟨rfl, hE2⟩
    have hE2' : Ext [] w w2 := ((Ext.refl _ _).alloc _).trans hE2
    have hb2 := hE2.at (World.alloc_heap_new w (.cells #[.bool false] 4)) (by simp)
    have q1 := cell_of hb2 (j := 0) rfl
    have q2 := free_of hb2 0
    have H2 := Lib.hid (And.intro hE2' hb2)
    clear hE2 hE2' hb2
    go_wp2
    show LeavesInM _ _ _ _ _ _ _ _ _
    refine fin.out [] _ (.bool false) (fun D hD => by cases hD) (by simp) H2.out.2 H2.out.1 _ ?_
    rfl
  have hd2 : decide ((60 : Int) < (n : Int)) = false := by simp; omega
  have hn60 : n ≤ 60 := by omega
  go_wp2_with fail
  refine (ep_new _).mono ?_
  rintro e W1 ⟨rfl, hE1, hc1⟩
  rw [World.size_alloc] at hc1 ⊢
  obtain ⟨c, hc⟩ : ∃ c, w.heap.size + 1 + 1 = c := ⟨_, rfl⟩
  obtain ⟨m, hm⟩ : ∃ m, w.heap.size + 1 = m := ⟨_, rfl⟩
  rw [hc] at hc1 ⊢
  rw [hm] at hc1
  have hr1 := hE1.at (World.alloc_heap_new w (.cells #[.bool false] 4)) (by simp)
  have hE1' : Ext [] w W1 := ((Ext.refl _ _).alloc _).trans hE1
  go_upto_region 5 with fail
  obtain ⟨W2, hW2⟩ : ∃ W2, W1.alloc (.cells #[.int .i64 0, .int .i64 0, .int .i64 0, .int .i64 0, .int .i64 0, .int .i64 0, .int .i64 0, .int .i64 0, .int .i64 0] 92) = W2 := ⟨_, rfl⟩
  obtain ⟨g, hg⟩ : ∃ g, W1.heap.size = g := ⟨_, rfl⟩
  have hst : Hid (CSt w W2 c m g 0 [] 0) := by
    have hE2 : Ext [] W1 W2 := by rw [← hW2]; exact (Ext.refl _ _).alloc _
    have hcl := lt_of_block hc1.1
    refine ⟨hc1.ext hE2 (by simp) (by simp), COk.nil, ?_, hE2.at hr1 (by simp), hE1'.trans hE2, by omega, by omega⟩
    rw [← hW2, ← hg]
    exact World.alloc_heap_new W1 (.cells #[.int .i64 0, .int .i64 0, .int .i64 0, .int .i64 0, .int .i64 0, .int .i64 0, .int .i64 0, .int .i64 0, .int .i64 0] 92)
  try rw [hW2]
  try rw [hg]
  clear hW2 hc1 hE1 hr1 hE1' hbig hd2 hc hm hg
  go_wp2_with fail
  go_loopg [3, 5] n (fun k p i wr => ∃ (j c m : Nat) (now : Int) (l : Ents), p = .pointer (some ⟨c, 0, none⟩) ∧ i = .int .i64 j ∧ j + k = n ∧ CSt w wr c m g now l j)
  case atStart => exact ⟨0, c, m, 0, [], rfl, rfl, by omega, hst.out⟩
  case round =>
    clear hst
    obtain ⟨j, c, m, now, l, rfl, rfl, hjk, hst⟩ := hrel
    by_cases hlt : j < n
    · obtain ⟨b, off, rfl, k1, k2⟩ : ∃ b off, ao = some ⟨b, off, none⟩ ∧ wr.cell? ⟨b, off + j * 2, none⟩ = some (.int .i64 (A j).1) ∧ wr.cell? ⟨b, off + j * 2 + 1, none⟩ = some (.int .i64 (A j).2) := by
        rcases HP.out.ext hst.ext with h | ⟨b, off, h1, h2⟩
        · omega
        · exact ⟨b, off, h1, h2 j hlt⟩
      have H52 : Hid (∀ W, Ext [] wr W → Calls Try.prog 52 #[.pointer (some ⟨c, 0, none⟩), .agg (refC now (pinN l)), .agg #[.int .i64 (A j).1, .int .i64 (A j).2]] W (ActR W c m (actN (A j).1 now l) (actL (A j).1 (A j).2 now l) (pinN (actL (A j).1 (A j).2 now l)))) :=
        fun W hE => ep_act c m now (A j).1 (A j).2 l W (hst.clk.ext hE (by simp) (by simp)) hst.ok (by have := hst.low; omega)
      have hbw : b < w.heap.size := by
        rcases HP.out with h | ⟨b', off', h1, h2⟩
        · omega
        · cases h1
          exact World.block_lt_of_cell? _ _ (h2 j hlt).1
      have HRD : Hid (∀ X, Ext [c, m] wr X → (rowOk X (.pointer (some ⟨g, 0, none⟩)) = true ∧ rowVal X (.pointer (some ⟨g, 0, none⟩)) = .agg (refC now (pinN l))) ∧ X.cell? ⟨b, off + j * 2, none⟩ = some (.int .i64 (A j).1) ∧ X.cell? ⟨b, off + j * 2 + 1, none⟩ = some (.int .i64 (A j).2)) := fun X hX => by
        obtain ⟨e1, e2, _, _⟩ := hst.cg
        have hlo := hst.lo
        exact ⟨row_of (hX.at hst.want (by simp; omega)), hX.cell k1 (by simp; omega), hX.cell k2 (by simp; omega)⟩
      have HST := Lib.hid hst
      have HAC := Lib.hid (And.intro (hst.ok.act (A j).1 (A j).2) (actN_le (A j).1 now l))
      obtain ⟨n', hn'⟩ : ∃ n', actN (A j).1 now l = n' := ⟨_, rfl⟩
      obtain ⟨l', hl'⟩ : ∃ l', actL (A j).1 (A j).2 now l = l' := ⟨_, rfl⟩
      rw [hn', hl'] at H52 HAC
      have hi0 : (0 : Int) ≤ (j : Int) := by omega
      have hi1 : (j : Int) < (n : Int) := by omega
      have hwj : wrap64 ((j : Int) + 1) = (j : Int) + 1 := IntWalk.wrap64_in _ (by omega)
      have HJ := Lib.hid (And.intro hjk (And.intro hlt hn60))
      clear hjk hlt hn60 hst hn' hl' hbw
      generalize A j = x at *
      obtain ⟨what, t⟩ := x
      dsimp only at *
      go_upto_region 8 with fail
      clear k1 k2
      go_cut [6, 7, 8] from 27 to 38 (fun s6 s7 s8 wx => ∃ c' m' b7, s6 = .pointer (some ⟨c', 0, none⟩) ∧ s7 = .pointer (some ⟨b7, 0, none⟩) ∧ s8 = .bool true ∧ AfterAct wr wx c m n' l' c' m' b7)
      case first =>
        refine wp_region_p4 [] (hds4 [0, 1, 2, 3, 4, 5] (.two 6 (hds4 [7, 8, 9, 10] (tls4 [11, 12, 13, 14] .done)) 11 (.tl 6 (hds4 [7, 8, 9, 10] (tls4 [12, 13, 14] .done))))) (Ext [c, m] wr) (by kernel_rfl) (by kernel_rfl) (fun _ d _ _ _ h => by cases d <;> exact h) (Ext.refl _ _).drew ?_
        repeat (first
          | (refine wpPl_hd4 ?_ rfl (by rfl) (fun w hSw => ?_) ?_
             rotate_left
             · (obtain ⟨⟨g1, g2⟩, g3, g4⟩ := HRD.out _ hSw; clear hSw; go_simp; first | exact ⟨rfl, rfl⟩ | exact rfl)
             simp only [Act.put, List.setIfInBounds_toArray, List.set_cons_zero, List.set_cons_succ]))
        refine wpPl_two4 ?_ ?_
        · refine wpPl_tl4 rfl (by rfl) (fun K hK => ?_)
          go_simp
          go_at_call 52
          refine (H52.out _ (Ext.refl _ _).drew).mono ?_
          rintro e W3 ⟨c', m', rfl, hE3, hc3, hnew⟩
          have H3 := Lib.hid (And.intro (show Ext [c, m] wr W3 from (Ext.refl _ _).drew.trans hE3) (And.intro hc3 hnew))
          refine hK _ _ (fun _ => H3.out.1) ?_
          clear hK K hE3 hc3 hnew
          try simp only [Act.put, List.setIfInBounds_toArray, List.set_cons_zero, List.set_cons_succ]
          repeat (first
            | (refine wpPl_hd4 ?_ rfl (by rfl) (fun w hSw => ?_) ?_
               rotate_left
               · (clear hSw; go_simp; first | exact ⟨rfl, rfl⟩ | exact rfl)
               simp only [Act.put, List.setIfInBounds_toArray, List.set_cons_zero, List.set_cons_succ]))
          refine wpPl_tl4 rfl (by rfl) (fun K hK => ?_)
          go_simp
          obtain ⟨W4, hW4⟩ : ∃ W4, W3.alloc (.cells #[.int .i64 0, .int .i64 0, .int .i64 0, .int .i64 0, .int .i64 0, .int .i64 0, .int .i64 0, .int .i64 0, .int .i64 0] 92) = W4 := ⟨_, rfl⟩
          obtain ⟨b7, hb7⟩ : ∃ b7, W3.heap.size = b7 := ⟨_, rfl⟩
          have hE4 : Ext [] W3 W4 := by rw [← hW4]; exact (Ext.refl _ _).alloc _
          have hZ4 : W4.heap[b7]? = some (.cells (refC 0 fun _ => 0) 92 (0, 0)) := by rw [← hW4, ← hb7]; exact World.alloc_heap_new W3 (.cells #[.int .i64 0, .int .i64 0, .int .i64 0, .int .i64 0, .int .i64 0, .int .i64 0, .int .i64 0, .int .i64 0, .int .i64 0] 92)
          obtain ⟨r3, _⟩ := row_of hZ4
          have H4 := Lib.hid (And.intro (H3.out.1.then hE4) (And.intro (H3.out.2.1.ext hE4 (by simp) (by simp)) (And.intro hZ4 (show wr.heap.size ≤ b7 by have := H3.out.1.size; omega))))
          try rw [hW4]
          try rw [hb7]
          refine hK _ _ (fun _ => H4.out.1) ?_
          clear hK K hE4 hZ4 hW4 hb7
          try simp only [Act.put, List.setIfInBounds_toArray, List.set_cons_zero, List.set_cons_succ]
          refine wpPl_tl4 rfl (by rfl) (fun K hK => ?_)
          go_simp
          refine hK _ _ (fun _ => H4.out.1) ?_
          clear hK K
          try simp only [Act.put, List.setIfInBounds_toArray, List.set_cons_zero, List.set_cons_succ]
          refine wpPl_tl4 rfl (by rfl) (fun K hK => ?_)
          go_simp
          refine hK _ _ (fun _ => ext_setRow H4.out.1 (.inr H4.out.2.2.2) _) ?_
          clear hK K
          try simp only [Act.put, List.setIfInBounds_toArray, List.set_cons_zero, List.set_cons_succ]
          refine wpPl_tl4 rfl (by rfl) (fun K hK => ?_)
          go_simp
          refine hK _ _ (fun _ => ext_setRow H4.out.1 (.inr H4.out.2.2.2) _) ?_
          clear hK K
          try simp only [Act.put, List.setIfInBounds_toArray, List.set_cons_zero, List.set_cons_succ]
          refine wpPl_done4 ?_
          go_wp2_with fail
          go_meet
          exact ⟨c', m', b7, rfl, rfl, rfl, AfterAct.mk' H4.out.1 H4.out.2.1 H4.out.2.2.1 H4.out.2.2.2 H3.out.2.2⟩
        · refine wpPl_tl4 rfl (by rfl) (fun K hK => ?_)
          go_simp
          obtain ⟨W3, hW3⟩ : ∃ W3, (wr.alloc (.cells #[.int .i64 0, .int .i64 0, .int .i64 0, .int .i64 0, .int .i64 0, .int .i64 0, .int .i64 0, .int .i64 0, .int .i64 0] 92)).drew = W3 := ⟨_, rfl⟩
          obtain ⟨b7, hb7⟩ : ∃ b7, wr.heap.size = b7 := ⟨_, rfl⟩
          have hE3 : Ext [] wr W3 := by rw [← hW3]; exact ((Ext.refl _ _).alloc _).drew
          have hZ3 : W3.heap[b7]? = some (.cells (refC 0 fun _ => 0) 92 (0, 0)) := by rw [← hW3, ← hb7]; exact World.alloc_heap_new wr (.cells #[.int .i64 0, .int .i64 0, .int .i64 0, .int .i64 0, .int .i64 0, .int .i64 0, .int .i64 0, .int .i64 0, .int .i64 0] 92)
          have H3 := Lib.hid (And.intro hE3 (And.intro hZ3 (show wr.heap.size ≤ b7 by omega)))
          try rw [hW3]
          try rw [hb7]
          refine hK _ _ (fun _ => H3.out.1.wide) ?_
          clear hK K hE3 hZ3 hW3
          try simp only [Act.put, List.setIfInBounds_toArray, List.set_cons_zero, List.set_cons_succ]
          refine wpPl_tl4 rfl (by rfl) (fun K hK => ?_)
          go_simp
          go_at_call 52
          refine (H52.out _ H3.out.1).mono ?_
          rintro e W4 ⟨c', m', rfl, hE4, hc4, hnew⟩
          have hcl := lt_of_block HST.out.clk.1
          have hml := HST.out.clk.2.lt
          have hZ4 := hE4.at H3.out.2.1 (by simp; omega)
          obtain ⟨r3, _⟩ := row_of hZ4
          have H4 := Lib.hid (And.intro (H3.out.1.wide.trans hE4) (And.intro hc4 (And.intro hZ4 (And.intro H3.out.2.2 (hnew.imp id (fun h => And.intro (Nat.le_trans H3.out.1.size h.1) (Nat.le_trans H3.out.1.size h.2)))))))
          refine hK _ _ (fun _ => H4.out.1) ?_
          clear hK K hE4 hc4 hnew hZ4 hcl hml hb7
          try simp only [Act.put, List.setIfInBounds_toArray, List.set_cons_zero, List.set_cons_succ]
          repeat (first
            | (refine wpPl_hd4 ?_ rfl (by rfl) (fun w hSw => ?_) ?_
               rotate_left
               · (clear hSw; go_simp; first | exact ⟨rfl, rfl⟩ | exact rfl)
               simp only [Act.put, List.setIfInBounds_toArray, List.set_cons_zero, List.set_cons_succ]))
          refine wpPl_tl4 rfl (by rfl) (fun K hK => ?_)
          go_simp
          refine hK _ _ (fun _ => H4.out.1) ?_
          clear hK K
          try simp only [Act.put, List.setIfInBounds_toArray, List.set_cons_zero, List.set_cons_succ]
          refine wpPl_tl4 rfl (by rfl) (fun K hK => ?_)
          go_simp
          refine hK _ _ (fun _ => ext_setRow H4.out.1 (.inr H4.out.2.2.2.1) _) ?_
          clear hK K
          try simp only [Act.put, List.setIfInBounds_toArray, List.set_cons_zero, List.set_cons_succ]
          refine wpPl_tl4 rfl (by rfl) (fun K hK => ?_)
          go_simp
          refine hK _ _ (fun _ => ext_setRow H4.out.1 (.inr H4.out.2.2.2.1) _) ?_
          clear hK K
          try simp only [Act.put, List.setIfInBounds_toArray, List.set_cons_zero, List.set_cons_succ]
          refine wpPl_done4 ?_
          go_wp2_with fail
          go_meet
          exact ⟨c', m', b7, rfl, rfl, rfl, AfterAct.mk' H4.out.1 H4.out.2.1 H4.out.2.2.1 H4.out.2.2.2.1 H4.out.2.2.2.2⟩
      case rest =>
        obtain ⟨c', m', b7, rfl, rfl, rfl, har⟩ := hcut
        have hgl := lt_of_block HST.out.want
        have HR9 : Hid (∀ X, Ext [g] wc X → rowOk X (.pointer (some ⟨b7, 0, none⟩)) = true ∧ rowVal X (.pointer (some ⟨b7, 0, none⟩)) = .agg (refC n' (pinN l'))) := fun X hX => row_of (hX.at har.row (by have := har.hb; simp; omega))
        have hwg : wc.drew.heap[g]? = some (.cells (refC now (pinN l)) 92 (0, 0)) := har.ext.at HST.out.want (by have := HST.out.cg; simp; omega)
        obtain ⟨r3, _⟩ := row_of hwg
        have HS9 := Lib.hid (HST.out.act har HAC.out.1 HAC.out.2.2)
        clear hwg hgl har H52 HRD
        go_upto_region 9 with fail
        refine wp_region_p4 [] (hds4 [0, 1] (.tl 2 (.tl 3 .done))) (Ext [g] wc) (by kernel_rfl) (by kernel_rfl) (fun _ d _ _ _ h => by cases d <;> exact h) (Ext.refl _ _).drew ?_
        repeat (first
          | (refine wpPl_hd4 ?_ rfl (by rfl) (fun w hSw => ?_) ?_
             rotate_left
             · (obtain ⟨g1, g2⟩ := HR9.out _ hSw; clear hSw; go_simp; first | exact ⟨rfl, rfl⟩ | exact rfl)
             simp only [Act.put, List.setIfInBounds_toArray, List.set_cons_zero, List.set_cons_succ]))
        refine wpPl_tl4 rfl (by rfl) (fun K hK => ?_)
        go_simp
        refine hK _ _ (fun _ => (Ext.refl _ _).drew) ?_
        clear hK K
        try simp only [Act.put, List.setIfInBounds_toArray, List.set_cons_zero, List.set_cons_succ]
        refine wpPl_tl4 rfl (by rfl) (fun K hK => ?_)
        go_simp
        refine hK _ _ (fun _ => ext_setRow (Ext.refl _ _).drew (.inl (by simp)) _) ?_
        clear hK K
        try simp only [Act.put, List.setIfInBounds_toArray, List.set_cons_zero, List.set_cons_succ]
        refine wpPl_done4 ?_
        obtain ⟨W9, hW9⟩ : ∃ W9, wc.drew.setRow g (refC n' (pinN l')) = W9 := ⟨_, rfl⟩
        rw [hW9] at HS9
        try rw [hW9]
        clear hW9 r3
        obtain ⟨r1, r2⟩ := row_of HS9.out.want
        go_wp2_with fail
        refine (ep_is c' m' n' l' W9 HS9.out.clk HS9.out.ok (by have := HS9.out.low; have := HJ.out; omega)).mono ?_
        rintro e W10 ⟨rfl, hE10⟩
        have H10 := Lib.hid (HS9.out.ext1 hE10)
        clear hE10 r1 r2
        go_wp2
        go_roundg (n - (j + 1))
        case measure => have := HJ.out; omega
        case rel => exact ⟨j + 1, c', m', n', l', rfl, by first | (rw [hwj]; rfl) | rfl, by have := HJ.out; omega, H10.out⟩
    · have hd : decide (j < n) = false := by simpa using hlt
      have HST := Lib.hid hst
      clear hst hlt hjk
      go_wp2_with fail
      all_goals
        first
          | (obtain ⟨W0, hW0⟩ : ∃ W0, wr.alloc (.cells #[.int .i64 0, .map none] 98) = W0 := ⟨_, rfl⟩
             have HNP : Hid (Ext [] wr W0 ∧ ∀ W, Ext [] W0 W → NoneC W (some ⟨wr.heap.size, 0, none⟩)) :=
               ⟨by rw [← hW0]; exact (Ext.refl _ _).alloc _, fun W hE => NoneC.ext (.inr ⟨_, rfl, by rw [← hW0]; exact World.alloc_heap_new _ _⟩) hE⟩
             rw [hW0]
             clear hW0
             obtain ⟨bo, hbo⟩ : ∃ bo : Option Addr, some ⟨wr.heap.size, 0, none⟩ = bo := ⟨_, rfl⟩
             rw [hbo] at HNP ⊢
             clear hbo)
          | (obtain ⟨W0, hW0⟩ : ∃ W0, W0 = wr := ⟨_, rfl⟩
             have HNP : Hid (Ext [] wr W0 ∧ ∀ W, Ext [] W0 W → NoneC W none) := ⟨by rw [hW0]; exact Ext.refl _ _, fun W hE => .inl rfl⟩
             rw [← hW0]
             clear hW0
             obtain ⟨bo, hbo⟩ : ∃ bo : Option Addr, none = bo := ⟨_, rfl⟩
             rw [hbo] at HNP ⊢
             clear hbo)
        refine (no_Pin bo 0 _ (HNP.out.2 _ (Ext.refl _ _))).mono ?_
        rintro e w1 ⟨rfl, hE1⟩
        have H1 := Lib.hid hE1
        clear hE1
        go_wp2_with fail
        refine (no_Advance bo _ (HNP.out.2 _ H1.out)).mono ?_
        rintro e w' ⟨rfl, rfl⟩
        go_wp2_with fail
        refine (no_At bo 0 _ (HNP.out.2 _ H1.out)).mono ?_
        rintro e w' ⟨rfl, rfl⟩
        go_wp2_with fail
        refine (no_Pinned bo _ (HNP.out.2 _ H1.out)).mono ?_
        rintro e w2 ⟨B1, bm1, rfl, hE2, _, _, _⟩
        have H2 := Lib.hid (H1.out.trans hE2)
        clear hE2
        have heq := eqfn2 96 #[.pointer (some ⟨B1, 0, none⟩)] w2
        go_wp2_with fail
        refine (no_Pinned bo _ (HNP.out.2 _ H2.out)).mono ?_
        rintro e w3 ⟨B, bm, rfl, hE3, hK3, _, _⟩
        have H3 := Lib.hid (And.intro (H2.out.trans hE3) hK3)
        clear hE3 hK3 heq
        go_wp2
        refine wpIn_wide.1 (wp_range (gf := 96) (lb := #[.pointer (some ⟨B, 0, none⟩)]) rfl (fun args w => enters_of Try.func96 (by kernel_rfl) rfl args w)
          (pinned_seq B bm [] (by simp) (fun p h => by cases h)) (fun pre x h => by obtain ⟨k, hk, _⟩ := okP_last h; exact absurd hk (Nat.not_lt_zero _)) []
          (fun mm pre W => mm = [] ∧ Ext [] w3 W) (fun _ _ => False) ?_ ?_ ?_ ?_ ?_ ?_ ?_ ?_)
        · exact fun mm pre => (Steady.const _ _).and (Steady.ext (Nat.le_refl _))
        · exact fun c => Steady.const _ _
        · rintro mm pre W ⟨_, hE⟩
          exact ⟨hE.cell H3.out.2.1 (by simp), H3.out.2.2.ext hE (by simp)⟩
        · intro j hj
          cases hj
        · exact ⟨rfl, Ext.refl _ _⟩
        · rintro l2 mm pre x W hl2 _ hok
          obtain ⟨k, hk, _⟩ := okP_last hok
          exact absurd hk (Nat.not_lt_zero _)
        · intro D mm xs W hD hx hi hdD
          have H4 := Lib.hid (H3.out.1.trans hi.2)
          have HSW := Lib.hid (HST.out.ext1 (HNP.out.1.trans H4.out))
          have HDD := Lib.hid (And.intro (show w.heap.size < D by have := lt_of_block HST.out.res; have := (HNP.out.1.trans H3.out.1).size; omega) hdD)
          clear hi hx hD hdD
          go_wp2_with (go_at_call 19; refine (num14 _ _).mono ?_; rintro e w' ⟨rfl, rfl⟩)
          refine (no_Unpin bo 0 _ (HNP.out.2 _ H4.out)).mono ?_
          rintro e w5 ⟨rfl, hE5⟩
          have H5 := Lib.hid hE5
          clear hE5
          go_wp2_with (go_at_call 19; refine (num14 _ _).mono ?_; rintro e w' ⟨rfl, rfl⟩)
          refine (no_Now bo _ (HNP.out.2 _ (H4.out.trans H5.out))).mono ?_
          rintro e w' ⟨rfl, rfl⟩
          go_wp2_with (go_at_call 19; refine (num14 _ _).mono ?_; rintro e w' ⟨rfl, rfl⟩)
          refine (no_Copy bo _ (HNP.out.2 _ (H4.out.trans H5.out))).mono ?_
          rintro e w' ⟨rfl, rfl⟩
          go_wp2_with (go_at_call 19; refine (num14 _ _).mono ?_; rintro e w' ⟨rfl, rfl⟩)
          refine (ep_SameN bo none true true _ rfl (fun W' hE => no_none _ W' (HNP.out.2 _ ((H4.out.trans H5.out).trans hE))) (fun W' hE => no_none _ W' (.inl rfl))).mono ?_
          rintro e w' ⟨rfl, rfl⟩
          go_wp2_with (go_at_call 19; refine (num14 _ _).mono ?_; rintro e w' ⟨rfl, rfl⟩)
          refine (ep_SameN (some ⟨c, 0, none⟩) bo false true _ rfl (fun W' hE => ep_none_no c m W' (HSW.out.clk.ext (H5.out.trans hE) (by simp) (by simp)).c1) (fun W' hE => no_none _ W' (HNP.out.2 _ ((H4.out.trans H5.out).trans hE)))).mono ?_
          rintro e w' ⟨rfl, rfl⟩
          go_wp2_with (go_at_call 19; refine (num14 _ _).mono ?_; rintro e w' ⟨rfl, rfl⟩)
          refine (ep_SameN bo (some ⟨c, 0, none⟩) true false _ rfl (fun W' hE => no_none _ W' (HNP.out.2 _ ((H4.out.trans H5.out).trans hE))) (fun W' hE => ep_none_no c m W' (HSW.out.clk.ext (H5.out.trans hE) (by simp) (by simp)).c1)).mono ?_
          rintro e w' ⟨rfl, rfl⟩
          go_wp2_with (go_at_call 19; refine (num14 _ _).mono ?_; rintro e w' ⟨rfl, rfl⟩)
          refine (HW.out _).mono ?_
          rintro e w9 ⟨rfl, hE9⟩
          have hb9 := (H5.out.trans hE9).at HSW.out.res (by simp)
          have H9 := Lib.hid (And.intro (HSW.out.ext.trans (H5.out.trans hE9)) (And.intro hb9 ((H5.out.trans hE9).at HDD.out.2 (by simp))))
          have k9 := cell_of (j := 0) (v := .bool false) hb9 rfl
          have f9 := free_of hb9 0
          clear hE9 hb9
          go_wp2
          show LeavesInM _ _ _ _ _ _ _ _ _
          refine fin.out [D] w9 (.bool false) (fun D' hD' => by rw [List.mem_singleton.1 hD']; exact ⟨H9.out.2.2, HDD.out.1⟩) (by simp) H9.out.2.1 H9.out.1 _ ?_
          rfl
        · intro D c' W hD hi hdD
          exact hi.elim
end Go.Proofs.Ytgpoplnfhlfogaa
