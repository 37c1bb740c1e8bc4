/- The walk of the law PmemAll. -/
import Derived.Test.YtfojmjkcjdehaaaPnR
import Derived.Test.YtfojmjkcjdehaaaPlA
namespace Go.Proofs.Ytfojmjkcjdehaaa
open Go Go.RowKit Go.Shelf
attribute [local go_sem] Oper.semAt_some

set_option maxRecDepth 100000 in
set_option maxHeartbeats 8000000 in
theorem pm_all (ao : Option Addr) (n cap : Nat) (A : Nat → PAct) (mo : Option Addr) (mn mcap : Nat) (M : Nat → Bool) (w : World) (hp : PActs w ao n A) (hn : n ≤ maxLen) (hA : ∀ i, i < n → PActOk (A i)) (hM : BoolsAt w mo mn M) (hmn : mn ≤ maxLen) :
    Calls Try.prog 4 #[.slice ao n cap, .slice mo mn mcap] w fun e w' => e = .returned (.bool true) ∧ Ext [] w w' := by
  unfold maxLen at hmn
  unfold maxLen at hn
  unfold PActOk maxLen at hA
  have HF := Lib.hid (pm_few ao n cap A 20 w hp hn hA)
  have HW := Lib.hid pm_works
  have HP := Lib.hid (And.intro hp hA)
  have HN5 : Hid (∀ w : World, Calls Try.prog 14 #[.int .i64 5] w fun e w' => e = .returned (.tuple #[.pointer (some ⟨w.heap.size + 2, 0, none⟩), .int .i64 0]) ∧ Ext [] w w' ∧ ∃ lb sb, DevAt w' (w.heap.size + 2) lb sb (dvNew 5) ∧ w.heap.size ≤ lb ∧ w.heap.size ≤ sb) := fun w => pm_New 5 w (by omega) (by omega)
  have HMK := Lib.hid (And.intro hM hmn)
  clear hp hA hM
  cases hf : fewP n A 20 with
  | false =>
    rw [hf] at HF
    clear hf
    go_enter Try.func4, Try.ntmps4
    go_wp2_with fail
    refine HF.out.mono ?_
    rintro e w' ⟨rfl, rfl⟩
    go_wp2_with fail
    refine (HW.out _).mono ?_
    rintro e w2 ⟨rfl, hE2⟩
    have H2 := Lib.hid hE2
    clear hE2
    go_wp2
    go_ret
    exact ⟨rfl, H2.out⟩
  | true =>
    rw [hf] at HF
    clear hf
    by_cases hbig : 60 < mn
    · have hd : decide (60 < mn) = true := by simpa using hbig
      have hd2 : decide ((60 : Int) < (mn : Int)) = true := by simp; omega
      go_enter Try.func4, Try.ntmps4
      go_wp2_with fail
      refine HF.out.mono ?_
      rintro e w' ⟨rfl, rfl⟩
      go_wp2_with fail
      refine (HW.out _).mono ?_
      rintro e w2 ⟨rfl, hE2⟩
      have H2 := Lib.hid hE2
      clear hE2
      go_wp2
      go_ret
      exact ⟨rfl, H2.out⟩
    have hd : decide (60 < mn) = false := by simpa using hbig
    have hd2 : decide ((60 : Int) < (mn : Int)) = false := by simp; omega
    clear hbig
    go_enter Try.func4, Try.ntmps4
    go_wp2_with fail
    refine HF.out.mono ?_
    rintro e w' ⟨rfl, rfl⟩
    go_wp2_with fail
    refine (HN5.out _).mono ?_
    rintro e w1 ⟨rfl, hE1, lb0, sb0, hD1, hl1, hs1⟩
    have H1 := Lib.hid (show LpSt w w1 (w.heap.size + 2) lb0 sb0 (dvNew 5) from ⟨hD1, dvNew5_ok, rfl, hE1, by omega, hl1, hs1⟩)
    obtain ⟨d0, hd0⟩ : ∃ d0, w.heap.size + 2 = d0 := ⟨_, rfl⟩
    rw [hd0] at H1 ⊢
    clear hE1 hD1 hl1 hs1 hd0 HN5 HF
    go_wp2
    go_loopg [5, 7] n (fun cnt p i wr => ∃ (j d lb sb : Nat) (D : Dv), p = .pointer (some ⟨d, 0, none⟩) ∧ i = .int .i64 j ∧ j + cnt = n ∧ LpSt w wr d lb sb D)
    case atStart => exact ⟨0, d0, lb0, sb0, dvNew 5, rfl, rfl, by omega, H1.out⟩
    case round =>
      obtain ⟨j, d, lb, sb, D, rfl, rfl, hj, hst⟩ := hrel
      have HST := Lib.hid hst
      clear hst
      by_cases hlt : j < n
      · obtain ⟨b, off, rfl, x0, x1, x2, x3, x4, x5, x6⟩ : ∃ b off, ao = some ⟨b, off, none⟩ ∧ w.cell? ⟨b, off + j * 6, none⟩ = some (.int .i64 (A j).what) ∧ w.cell? ⟨b, off + j * 6 + 1, none⟩ = some (.int .i64 (A j).at') ∧ w.cell? ⟨b, off + j * 6 + 2, none⟩ = some (.int .i64 (A j).line) ∧
            w.cell? ⟨b, off + j * 6 + 3, none⟩ = some (.int .u64 (A j).wd) ∧ w.cell? ⟨b, off + j * 6 + 4, none⟩ = some (.int .u64 (A j).fr) ∧ w.cell? ⟨b, off + j * 6 + 5, none⟩ = some (.slice (A j).bo (A j).n (A j).cap) ∧ BoolsAt w (A j).bo (A j).n (A j).M := by
          rcases HP.out.1 with h | ⟨b, off, h1, h2⟩
          · omega
          · exact ⟨b, off, h1, h2 j hlt⟩
        have HM := Lib.hid x6
        have HMN := Lib.hid (HP.out.2 j hlt)
        have HS : Hid (∀ W, Ext [] w W → W.cell? ⟨b, off + j * 6, none⟩ = some (.int .i64 (A j).what) ∧ W.cell? ⟨b, off + j * 6 + 1, none⟩ = some (.int .i64 (A j).at') ∧ W.cell? ⟨b, off + j * 6 + 2, none⟩ = some (.int .i64 (A j).line) ∧
            W.cell? ⟨b, off + j * 6 + 3, none⟩ = some (.int .u64 (A j).wd) ∧ W.cell? ⟨b, off + j * 6 + 4, none⟩ = some (.int .u64 (A j).fr) ∧ W.cell? ⟨b, off + j * 6 + 5, none⟩ = some (.slice (A j).bo (A j).n (A j).cap)) := fun W hE =>
          ⟨hE.cell x0 (by simp), hE.cell x1 (by simp), hE.cell x2 (by simp), hE.cell x3 (by simp), hE.cell x4 (by simp), hE.cell x5 (by simp)⟩
        have hi0 : (0 : Int) ≤ (j : Int) := by omega
        have hi1 : (j : Int) < (n : Int) := by omega
        have HJ := Lib.hid (And.intro hj hlt)
        clear hj hlt x0 x1 x2 x3 x4 x5 x6
        go_wp2
        go_region_held3 (fun W => W.cell? ⟨b, off + j * 6, none⟩ = some (.int .i64 (A j).what) ∧ W.cell? ⟨b, off + j * 6 + 1, none⟩ = some (.int .i64 (A j).at') ∧ W.cell? ⟨b, off + j * 6 + 2, none⟩ = some (.int .i64 (A j).line) ∧
            W.cell? ⟨b, off + j * 6 + 3, none⟩ = some (.int .u64 (A j).wd) ∧ W.cell? ⟨b, off + j * 6 + 4, none⟩ = some (.int .u64 (A j).fr) ∧ W.cell? ⟨b, off + j * 6 + 5, none⟩ = some (.slice (A j).bo (A j).n (A j).cap))
          (first
            | exact HS.out _ HST.out.ext.drew
            | exact HS.out _ hX5
            | exact HS.out _ HST7.out.ext)
          ((first
            | (go_at_call 16; refine (pm_none5 _).mono ?_
               rintro e w5 ⟨v5, rfl, hE5, hR5⟩
               have hX5 : Ext [] w w5 := HST.out.ext.drew.trans hE5
               have HST5 := Lib.hid (HST.out.ext1 ((Ext.refl [] wr).drew.trans hE5))
               have HR5 := Lib.hid hR5
               clear hE5 hR5)
            | (go_at_call 15; refine (pm_act d lb sb D (dvNew 5) v5 (A j) w5 HST5.out.dev HST5.out.ok HR5.out dvNew5_ok HST5.out.n5 (fun W hE => HM.out.ext (HST5.out.extD hE)) HMN.out).mono ?_
               rintro e w7 ⟨d', lb', sb', v7, b7, rfl, hE7, hD7, hR7, hd7, hl7, hs7, _⟩
               have HST7 := Lib.hid (HST5.out.acted hE7 hD7 (actD_ok HST5.out.ok _) ((actD_n _ _).trans HST5.out.n5) hd7 hl7 hs7)
               clear hE7 hD7 hR7 hd7 hl7 hs7)
            | fail))
        all_goals go_wp2
        all_goals
          go_roundg (n - (j + 1))
          case measure => have := HJ.out; omega
          case rel => exact ⟨j + 1, d', lb', sb', _, rfl, by go_num, by have := HJ.out; omega, HST7.out⟩
      · have hd : decide (j < n) = false := by simpa using hlt
        have HZ := Lib.hid hn
        clear hj hlt hn hmn
        have hn5 := HST.out.n5
        go_wp2
        go_loopg [8, 9] 5 (fun cnt x k wr2 => ∃ k2 : Nat, x = .int .i64 0 ∧ k = .int .i64 k2 ∧ k2 + cnt = 5 ∧ LpSt w wr2 d lb sb (flushN D k2))
        case atStart => exact ⟨0, rfl, rfl, by omega, HST.out⟩
        case round =>
          obtain ⟨k2, rfl, rfl, hk2, hst⟩ := hrel
          have HS2 := Lib.hid hst
          clear hst
          by_cases hk5 : k2 < 5
          · have hi0 : (0 : Int) ≤ (k2 : Int) := by omega
            have hi1 : (k2 : Int) < 5 := by omega
            have HFL : Hid (Calls Try.prog 22 #[.pointer (some ⟨d, 0, none⟩), .int .i64 (k2 : Int)] wr fun e w' => e = .returned (.int .i64 0) ∧ DevPost [d] wr d lb sb (flushN D (k2 + 1)) w') := by
              have h := pm_Flush d lb sb (k2 : Int) (flushN D k2) wr HS2.out.dev HS2.out.ok
              have h2 : ((flushN D k2).flush (k2 : Int)).2 = 0 := by
                unfold Dv.flush
                rw [if_pos (Dv.line_nat (by rw [HS2.out.n5]; exact hk5))]
              rw [h2] at h
              exact h
            have HJ := Lib.hid (And.intro hk2 hk5)
            clear hk2 hk5
            go_wp2_with fail
            refine HFL.out.mono ?_
            rintro e w5 ⟨rfl, hD5, hE5⟩
            have H5 := Lib.hid (HS2.out.acted (hE5.sub (fun q hq => by simp at hq ⊢; omega)) hD5 (flushN_ok HST.out.ok _) (by rw [flushN_n]; exact HST.out.n5) (.inl rfl) (.inl rfl) (.inl rfl))
            clear hD5 hE5
            go_wp2_with (go_at_call 19; refine (pm_num _ _).mono ?_; rintro e w' ⟨rfl, rfl⟩)
            go_roundg (5 - (k2 + 1))
            case measure => have := HJ.out; omega
            case rel => exact ⟨k2 + 1, rfl, by go_num, by have := HJ.out; omega, H5.out⟩
          · obtain rfl : k2 = 5 := by omega
            clear hk2 hk5
            have h5 : D.n = 5 := HST.out.n5
            have hall : ∀ x, x < 8 * (flushN D 5).fence.n → (flushN D 5).fence.S x = (flushN D 5).fence.L x := by
              intro x hx
              have := fenced_S HST.out.ok (x := x) (by rw [← flushN_n D 5]; exact hx)
              rw [h5] at this
              exact this.trans (by rw [← flushN_L D 5]; rfl)
            have HAL := Lib.hid hall
            have hmed : mediaV (flushN D 5).fence = .agg #[.int .i64 5, .int .i64 0, .int .i64 0] := by
              unfold mediaV
              rw [dirty_zero _ (fun x hx => (hall x hx).symm), show (flushN D 5).fence.n = 5 from (flushN_n D 5).trans h5]
              rfl
            have HMD := Lib.hid hmed
            have HCB := Lib.hid (crash_same (D := (flushN D 5).fence) rfl hall (markS mn M))
            have HF5 := Lib.hid (pm_Fence_in d lb sb (flushN D 5) wr HS2.out.dev HS2.out.ok)
            have hok5 := Dv.settle_ok (flushN_ok HST.out.ok 5) (fun _ => true)
            have hn55 : (flushN D 5).fence.n = 5 := (flushN_n D 5).trans h5
            clear hall hmed h5 hn5
            have HOK := Lib.hid (And.intro (show DvOk (flushN D 5).fence from hok5) hn55)
            clear hok5 hn55
            generalize (flushN D 5).fence = D5 at *
            go_wp2_with fail
            refine HF5.out.mono ?_
            rintro e w5 ⟨rfl, hD5, hE5⟩
            have H5 := Lib.hid (HS2.out.acted (hE5.sub (fun q hq => by simp at hq ⊢; omega)) hD5 HOK.out.1 HOK.out.2 (.inl rfl) (.inl rfl) (.inl rfl))
            clear hD5 hE5
            go_wp2_with fail
            refine (pm_num _ _).mono ?_
            rintro e w' ⟨rfl, rfl⟩
            go_wp2_with fail
            refine (pm_State d lb sb D5 w5 H5.out.dev H5.out.ok).mono ?_
            rintro e w6 ⟨rfl, hE6⟩
            rw [HMD.out]
            have H6 := Lib.hid (H5.out.ext1 hE6)
            clear hE6
            go_upto_region 15 with fail
            obtain ⟨w7, hw7⟩ : ∃ w7, w6.alloc (.cells #[.int .i64 5, .int .i64 0, .int .i64 0] 49) = w7 := ⟨_, rfl⟩
            have hE7 : Ext [] w6 w7 := by rw [← hw7]; exact (Ext.refl _ _).alloc _
            have hb7 : w7.heap[w6.heap.size]? = some (.cells #[.int .i64 5, .int .i64 0, .int .i64 0] 49 (0, 0)) := by rw [← hw7]; exact World.alloc_heap_new _ _
            try rw [hw7]
            have H7 := Lib.hid (And.intro (H6.out.ext1 hE7) hb7)
            clear hE7 hb7 hw7
            go_wp2_with fail
            refine (pm_Copy d lb sb D5 w7 H7.out.1.dev H7.out.1.ok).mono ?_
            rintro e w8 ⟨d2, lb2, sb2, rfl, hE8, hD8, hd8, hl8, hs8⟩
            have H8 := Lib.hid (And.intro (H7.out.1.ext1 hE8) (And.intro hD8 (And.intro (hE8.at H7.out.2 (by simp)) (And.intro hd8 (And.intro hl8 hs8)))))
            clear hE8 hD8 hd8 hl8 hs8
            go_wp2_with fail
            refine (pm_Crash_in d2 lb2 sb2 mo mn mcap M D5 w8 H8.out.2.1 H8.out.1.ok (fun W hE => HMK.out.1.ext (H8.out.1.ext.trans' hE (fun q hq => .inr (by have := H8.out.2.2.2; have := H7.out.1.ext.size; simp at hq; omega)))) (by have := HMK.out.2; unfold maxLen at this; omega)).mono ?_
            rintro e w9 ⟨rfl, lb3, hD9, hE9, hl9⟩
            have hdlt := H7.out.1.dev.lt
            have hne : ∀ q, q < w7.heap.size → q ∉ [d2, sb2] := fun q hq hm => by have := H8.out.2.2.2; simp at hm; omega
            have hlt6 := lt_of_block H7.out.2
            have hb9 := hE9.at H8.out.2.2.1 (hne _ hlt6)
            obtain ⟨m0, m1, m2⟩ := three hb9
            have hD9b : DevAt w9 d lb sb D5 := H8.out.1.dev.ext hE9 (hne _ hdlt.1) (hne _ hdlt.2.1) (hne _ hdlt.2.2) (fun g cur hg hm => H8.out.2.1.noW g cur hg (by simp at hm; simp; omega))
            have HSM := Lib.hid (pm_Same d2 lb3 sb2 d lb sb (D5.crash (markS mn M)) D5 w9 hD9 hD9b (Dv.crash_ok HOK.out.1 _) rfl)
            rw [HCB.out] at HSM
            have H9 := Lib.hid (H8.out.1.ext.trans' hE9 (fun q hq => .inr (by have := H8.out.2.2.2; have := H7.out.1.ext.size; simp at hq; omega)))
            clear hD9 hE9 hl9 hb9 hne hdlt hlt6 hD9b
            go_wp2_with (first
              | (go_at_call 19; refine (pm_num _ _).mono ?_; rintro e w' ⟨rfl, rfl⟩)
              | (go_at_call 26; refine HSM.out.mono ?_; rintro e w10 ⟨rfl, hE10⟩; have H10 := Lib.hid hE10; clear hE10)
              | (go_at_call 13; refine (HW.out _).mono ?_; rintro e w11 ⟨rfl, hE11⟩; have H11 := Lib.hid hE11; clear hE11))
            go_ret
            exact ⟨rfl, H9.out.trans (H10.out.trans H11.out)⟩
end Go.Proofs.Ytfojmjkcjdehaaa
