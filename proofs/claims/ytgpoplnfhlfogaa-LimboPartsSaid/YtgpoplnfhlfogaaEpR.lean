/- The document's clock: Advance, Pinned; whether two are the same. -/
import Derived.Test.YtgpoplnfhlfogaaEpO
import Derived.Test.YtgpoplnfhlfogaaOpm
namespace Go.Proofs.Ytgpoplnfhlfogaa
open Go Go.RowKit Go.Shelf
attribute [local go_sem] Oper.semAt_some
theorem rowOk_drewN (w : World) (n : Nat) (v : Value) : rowOk (w.drewN n) v = rowOk w v := rfl
theorem rowVal_drewN (w : World) (n : Nat) (v : Value) : rowVal (w.drewN n) v = rowVal w v := rfl
attribute [local go_sem ↓] wp_loadC wp_storeC
attribute [local go_sem] rowB_ptr rowCs_agg aggOk_ref rowOk_drew rowVal_drew rowOk_drewN rowVal_drewN

set_option maxRecDepth 100000 in
set_option maxHeartbeats 4000000 in
theorem rf_Advance (now : Int) (l : Ents) (w : World) (h : COk now l) (h1 : now ≤ 1073741824) :
    Calls Try.prog 100 #[.agg (refC now (pinN l))] w fun e w' => e = .returned (.tuple #[.agg (refC (if advOk now l then now + 1 else now) (pinN l)), .bool (advOk now l)]) ∧ Ext [] w w' := by
  obtain ⟨W, hW, hE, hb1, hb2⟩ := two_new (w := w) now (pinN l)
  have H := Lib.hid (And.intro hE (And.intro hb1 (And.intro hb2 (And.intro h h1))))
  clear hE hb1 hb2 h h1
  obtain ⟨A, hA⟩ : ∃ A, advOk now l = A := ⟨_, rfl⟩
  obtain ⟨N, hN⟩ : ∃ N, (if advOk now l then now + 1 else now) = N := ⟨_, rfl⟩
  rw [hN, hA]
  have HA := Lib.hid (And.intro hA hN)
  clear hA hN
  obtain ⟨F, hF⟩ : ∃ F, pinN l = F := ⟨_, rfl⟩
  have HF := Lib.hid hF
  rw [hF] at hW ⊢
  clear hF
  go_enter Try.func100, Try.ntmps100
  go_wp2_with fail
  rw [refC0, hW]
  clear hW
  go_loopg [4] 8 (fun k i wr => ∃ j : Nat, i = .int .i64 j ∧ j + k = 8 ∧ (∀ q, q < j → pinN l q = 0 ∨ pinN l q - 1 = now) ∧ Ext [] W wr)
  case atStart => exact ⟨0, rfl, by omega, fun q hq => absurd hq (Nat.not_lt_zero _), Ext.refl _ _⟩
  case round =>
    obtain ⟨j, rfl, hjk, hq, hE⟩ := hrel
    obtain ⟨hE0, hb1, hb2, hok, hle⟩ := H.out
    have hb1 := hE.at hb1 (by simp)
    have hb2 := hE.at hb2 (by simp)
    rw [HF.out] at hb1
    obtain ⟨r1, r2⟩ := row_of hb1
    obtain ⟨r3, _⟩ := row_of hb2
    have p0 := cell_of (j := 0) (v := .int .i64 now) hb1 rfl
    have hlow := hok.low
    by_cases hlt : j < 8
    · have hd : decide ((j : Int) < 8) = true := by simp; omega
      have p1 := cell_of (j := 1 + j) hb1 (refC_get now F j hlt)
      have hj0 : (0 : Int) ≤ (j : Int) := by omega
      have hj8 : (j : Int) < 8 := by omega
      have hbd := hok.pos j
      rw [HF.out] at hbd
      have hwr : wrap64 (F j - 1) = F j - 1 := IntWalk.wrap64_in _ (by omega)
      have HJ := Lib.hid (And.intro hjk (And.intro hlt (And.intro hq (And.intro hE (And.intro hb1 hb2)))))
      clear hjk hlt hq hE hb1 hb2 hE0 hok hle hlow
      by_cases hz : 0 < F j
      · have hgt : decide (0 < F j) = true := by simpa using hz
        by_cases hs : F j - 1 = now
        · have hne : (F j - 1 != now) = false := by simpa using hs
          have HG : Hid (∀ q, q < j + 1 → pinN l q = 0 ∨ pinN l q - 1 = now) := fun q hq => by
            rcases Nat.lt_succ_iff_lt_or_eq.1 hq with h' | rfl
            · exact HJ.out.2.2.1 q h'
            · rw [HF.out]; exact .inr hs
          clear hz hs hbd
          go_wp2
          go_quiet (fail)
          go_wp2
          go_roundg (8 - (j + 1))
          case measure => have := HJ.out.1; omega
          case rel => exact ⟨j + 1, by go_num, by have := HJ.out; omega, HG.out, HJ.out.2.2.2.1.drewN _⟩
        · have hne : (F j - 1 != now) = true := by simpa using hs
          have HP : Hid (advOk now l = false) := advOk_false H.out.2.2.2.1 HJ.out.2.1 (by rw [HF.out]; exact hz) (by rw [HF.out]; exact hs)
          clear hz hs hbd
          go_wp2
          go_quiet (fail)
          go_wp2
          refine bodyPost_ret (results_ca Try.results100 _ _ (w.heap.size + 1) _ (refC now F) _ _ _ rfl (setRow_ref (w := World.drewN _ _) HJ.out.2.2.2.2.2) rfl Try.underlying92 rfl szC) rfl ?_
          obtain ⟨hA, hN⟩ := HA.out
          rw [HP.out] at hA hN
          subst hA
          subst hN
          exact ⟨rfl, ext_setRow (Ext.drewN (H.out.1.trans HJ.out.2.2.2.1) _) (.inr (by simp)) _⟩
      · have hz0 : F j = 0 := by omega
        have hgt : decide (0 < F j) = false := by simpa using hz
        have HG : Hid (∀ q, q < j + 1 → pinN l q = 0 ∨ pinN l q - 1 = now) := fun q hq => by
          rcases Nat.lt_succ_iff_lt_or_eq.1 hq with h' | rfl
          · exact HJ.out.2.2.1 q h'
          · rw [HF.out]; exact .inl hz0
        clear hz hz0 hbd
        go_wp2
        go_quiet (fail)
        go_wp2
        go_roundg (8 - (j + 1))
        case measure => have := HJ.out.1; omega
        case rel => exact ⟨j + 1, by go_num, by have := HJ.out; omega, HG.out, HJ.out.2.2.2.1.drewN _⟩
    · obtain rfl : j = 8 := by omega
      have hall := advOk_all hok hq
      by_cases hl : 1073741824 ≤ now
      · have hnow : now = 1073741824 := by omega
        have HP : Hid (advOk now l = false) := by
          rcases hall with h | h
          · unfold Hid; rw [h]; simp; omega
          · omega
        have hge : decide (1073741824 ≤ now) = true := by simpa using hl
        have HJ := Lib.hid (And.intro hE hb2)
        clear hall hq hE hb1 hb2 hE0 hok hle hlow hnow hjk hlt
        go_wp2
        refine bodyPost_ret (results_ca Try.results100 _ _ (w.heap.size + 1) _ (refC now F) _ _ _ rfl (setRow_ref HJ.out.2) rfl Try.underlying92 rfl szC) rfl ?_
        obtain ⟨hA, hN⟩ := HA.out
        rw [HP.out] at hA hN
        subst hA
        subst hN
        exact ⟨rfl, ext_setRow (H.out.1.trans HJ.out.1) (.inr (by simp)) _⟩
      · have HP : Hid (advOk now l = true) := by
          rcases hall with h | h
          · unfold Hid; rw [h]; simp; omega
          · omega
        have hge : decide (1073741824 ≤ now) = false := by simpa using hl
        have hwn : wrap64 (now + 1) = now + 1 := IntWalk.wrap64_in _ (by omega)
        obtain ⟨w1, hw1⟩ : ∃ w1, wr.setCell ⟨w.heap.size, 0, none⟩ (.int .i64 (now + 1)) = w1 := ⟨_, rfl⟩
        have hE1 : Ext [w.heap.size] wr w1 := by rw [← hw1]; exact (Ext.refl _ _).setCell (.inl (by simp)) _
        have hb3 : w1.heap[w.heap.size]? = some (.cells (refC (now + 1) F) 92 (0, 0)) := by rw [← hw1]; exact setNow_ref hb1
        have hb4 := hE1.at hb2 (by simp)
        obtain ⟨r4, r5⟩ := row_of hb3
        obtain ⟨r6, _⟩ := row_of hb4
        have f1 := free_of hb1 0
        have HJ := Lib.hid (And.intro ((hE0.trans hE).trans' hE1 (fun j hj => .inr (by simp at hj; omega))) hb4)
        clear hall hq hE hb1 hb2 hE0 hok hle hlow hjk hlt hE1 hb3 hb4 hl
        go_upto_region 9 with fail
        try rw [hw1]
        clear hw1
        go_wp2
        refine bodyPost_ret (results_ca Try.results100 _ _ (w.heap.size + 1) _ (refC (now + 1) F) _ _ _ rfl (setRow_ref HJ.out.2) rfl Try.underlying92 rfl szC) rfl ?_
        obtain ⟨hA, hN⟩ := HA.out
        rw [HP.out] at hA hN
        subst hA
        subst hN
        exact ⟨rfl, ext_setRow HJ.out.1 (.inr (by simp)) _⟩

theorem infoInt : (Try.prog.info? 3).map (fun i => (i.zero, i.size, i.bytes)) = some (some (.int .i64 0), 1, 8) := by kernel_rfl
def intL (L : List Int) : List Value := L.map (Value.int .i64)
theorem intL_snoc (L : List Int) (k : Int) : intL (L ++ [k]) = intL L ++ [.int .i64 k] := by simp [intL]

set_option maxRecDepth 100000 in
set_option maxHeartbeats 4000000 in
theorem rf_Pinned (now : Int) (l : Ents) (w : World) :
    Calls Try.prog 57 #[.agg (refC now (pinN l))] w fun e w' => ∃ ao cap, e = .returned (.slice ao (refP l 8).length cap) ∧ IntsAt w' ao (refP l 8) ∧ Ext [] w w' ∧ ∀ p, ao = some p → w.heap.size ≤ p.block ∧ p.block < w'.heap.size := by
  obtain ⟨i0, hi, hz0, hz1, hz2⟩ := info_parts infoInt
  obtain ⟨F, hF⟩ : ∃ F, pinN l = F := ⟨_, rfl⟩
  obtain ⟨W, hW⟩ : ∃ W, w.alloc (.cells (refC now F) 92) = W := ⟨_, rfl⟩
  have hE : Ext [] w W := by rw [← hW]; exact (Ext.refl _ _).alloc _
  have hb : W.heap[w.heap.size]? = some (.cells (refC now F) 92 (0, 0)) := by rw [← hW]; exact World.alloc_heap_new _ _
  have H := Lib.hid (And.intro hE hb)
  have HF := Lib.hid hF
  have HI := Lib.hid (And.intro hi (And.intro hz0 (And.intro hz1 hz2)))
  rw [hF]
  clear hF hE hb hi hz0 hz1 hz2
  go_enter Try.func57, Try.ntmps57
  go_wp2_with fail
  try rw [hW]
  clear hW
  go_loopg [3, 4] 8 (fun k v i wr => ∃ (j : Nat), i = .int .i64 j ∧ j + k = 8 ∧ wr.ownsRow W.heap.size 3 1 v (refP l j).length (intL (refP l j)) ∧ Ext [] W wr)
  case atStart => exact ⟨0, rfl, by omega, World.ownsRow_nil _ _ _ _, Ext.refl _ _⟩
  case round =>
    obtain ⟨j, rfl, hjk, hown, hE⟩ := hrel
    have hb := hE.at H.out.2 (by simp)
    obtain ⟨ao, cap, rfl⟩ := slice_of_owns hown
    by_cases hlt : j < 8
    · have hd : decide ((j : Int) < 8) = true := by simp; omega
      have p1 := cell_of (j := 1 + j) hb (refC_get now F j hlt)
      have hj0 : (0 : Int) ≤ (j : Int) := by omega
      have hj8 : (j : Int) < 8 := by omega
      have hrs := refP_succ l j
      rw [HF.out] at hrs
      by_cases hz : 0 < F j
      · rw [if_pos hz] at hrs
        have hoa := owns_ext hown ((Ext.refl [] wr).alloc (.cells #[.int .i64 j] 3)) (fun _ _ => by simp)
        have hnw : ∀ (k : Nat) (u : Value), [Value.int .i64 j][k]? = some u → (wr.alloc (.cells #[.int .i64 j] 3)).cell? ((⟨wr.heap.size, 0, none⟩ : Addr).add k) = some u := fun k u hj =>
          holds_of_block (World.alloc_heap_new wr (.cells #[.int .i64 j] 3)) [.int .i64 j] (fun j v h => by simpa using h) k u hj
        have hlen := refP_len l j
        have HJ := Lib.hid (And.intro hjk (And.intro hlt (And.intro hrs (And.intro hE (And.intro hown hlen)))))
        have HOA := Lib.hid (And.intro hoa hnw)
        clear hjk hlt hrs hE hown hlen hoa hnw hb
        go_wp2_with (at_builtin; refine wpList_append_loc rfl _ _ 43 rfl W.heap.size 3 i0 (.int .i64 0) 1 8 Try.underlying43 HI.out.1 HI.out.2.1 HI.out.2.2.1 HI.out.2.2.2 rfl (by decide) _ _ _ rfl HOA.out.1 ⟨wr.heap.size, 0, none⟩ 1 1 [.int .i64 j] rfl rfl HOA.out.2 (by simp [Value.oneCell']) (by have := HJ.out; unfold maxLen; omega) (by have := HJ.out; omega) (by have := HJ.out.2.2.2.1.size; simp; omega) ?_)
        intro v' w1 ho1 hE1 _ _
        have HN : Hid (w1.ownsRow W.heap.size 3 1 v' (refP l (j + 1)).length (intL (refP l (j + 1))) ∧ Ext [] W w1) := by
          refine ⟨?_, ?_⟩
          · rw [HJ.out.2.2.1, intL_snoc, List.length_append]
            exact ho1
          · refine (HJ.out.2.2.2.1.alloc _).trans' hE1 (fun g hg => .inr ?_)
            simp only [Option.mem_toList] at hg
            exact (HJ.out.2.2.2.2.1.lt g hg).1
        clear ho1 hE1
        go_wp2
        go_roundg (8 - (j + 1))
        case measure => have := HJ.out.1; omega
        case rel => exact ⟨j + 1, by go_num, by have := HJ.out; omega, HN.out.1, HN.out.2⟩
      · rw [if_neg hz] at hrs
        have HJ := Lib.hid (And.intro hjk (And.intro hlt (And.intro hrs (And.intro hE hown))))
        clear hjk hlt hrs hE hown hb
        go_wp2
        go_roundg (8 - (j + 1))
        case measure => have := HJ.out.1; omega
        case rel => exact ⟨j + 1, by go_num, by have := HJ.out; omega, by rw [HJ.out.2.2.1]; exact HJ.out.2.2.2.2, HJ.out.2.2.2.1⟩
    · obtain rfl : j = 8 := by omega
      have HJ := Lib.hid (And.intro hE hown)
      clear hjk hlt hE hown hb
      go_wp2
      go_ret
      obtain ⟨ao', cap', he, hint, hbk⟩ := IntsAt.of_owns rfl HJ.out.2
      exact ⟨ao', cap', by rw [he]; rfl, hint, H.out.1.trans HJ.out.1, fun p hp => ⟨Nat.le_trans H.out.1.size (hbk p hp).1, (hbk p hp).2⟩⟩
end Go.Proofs.Ytgpoplnfhlfogaa
