/- The law's is: a device stands as the document's. -/
import Derived.Test.YtfojmjkcjdehaaaPnS
import Derived.RangeFuncLeaves
namespace Go.Proofs.Ytfojmjkcjdehaaa
open Go Go.RowKit Go.Shelf
attribute [local go_sem] Oper.semAt_some

theorem eqMediaB (a b c a' b' c' : Int) (w : World) : (binOp .eql 49 (.agg #[.int .i64 a, .int .i64 b, .int .i64 c]) (.agg #[.int .i64 a', .int .i64 b', .int .i64 c'])).run Try.prog w = .ok (.bool (a == a' && (b == b' && c == c'))) w := by
  have u3 := Try.underlying3
  have hS : Try.prog.underlying 49 = some (.struct (Try.prog.fieldsOf 49)) := by kernel_rfl
  have hp : Try.prog.stoodInHeld 49 = false := by kernel_rfl
  rw [run_eql_struct, show (10000 : Nat) = 9999 + 1 from rfl, run_equalIn_agg w 9999 49 _ _ hS hp]
  simp only [Program.fieldsOf, Try.underlying49]
  go_simp
  by_cases h1 : a = a' <;> by_cases h2 : b = b' <;> by_cases h3 : c = c' <;> simp [h1, h2, h3]
theorem neMediaB (a b c a' b' c' : Int) (w : World) : (binOp .neq 49 (.agg #[.int .i64 a, .int .i64 b, .int .i64 c]) (.agg #[.int .i64 a', .int .i64 b', .int .i64 c'])).run Try.prog w = .ok (.bool (!(a == a' && (b == b' && c == c')))) w := by
  have u3 := Try.underlying3
  have hS : Try.prog.underlying 49 = some (.struct (Try.prog.fieldsOf 49)) := by kernel_rfl
  have hp : Try.prog.stoodInHeld 49 = false := by kernel_rfl
  rw [run_neq_struct, show (10000 : Nat) = 9999 + 1 from rfl, run_equalIn_agg w 9999 49 _ _ hS hp]
  simp only [Program.fieldsOf, Try.underlying49]
  go_simp
  by_cases h1 : a = a' <;> by_cases h2 : b = b' <;> by_cases h3 : c = c' <;> simp [h1, h2, h3]
theorem eqSeq (g : Nat) (lb : Array Value) (w : World) : (binOp .eql 63 (.func (.func g) #[] lb) .nilFunc).run Try.prog w = .ok (.bool false) w := by
  kernel_rfl

set_option maxRecDepth 100000 in
set_option maxHeartbeats 4000000 in
theorem pm_is2 (d lb sb : Nat) (D : Dv) (v : Value) (w : World) (hD : DevAt w d lb sb D) (hn : DvOk D) (hR : RefAt w v D) :
    Calls Try.prog 30 #[.pointer (some ⟨d, 0, none⟩), v] w fun e w' => e = .returned (.bool true) ∧ Ext [] w w' := by
  have hRR := hR
  obtain ⟨sg, sc, tg, tc, wo, wk, rfl, hS, hT, hW⟩ := hRR
  obtain ⟨w1, hw1⟩ : ∃ w1, (w.alloc (.cells #[.slice (some ⟨sg, 0, none⟩) D.n sc, .slice (some ⟨tg, 0, none⟩) D.n tc, .slice wo D.W.length wk] 33)).alloc (.cells #[.bool false] 4) = w1 := ⟨_, rfl⟩
  have hE1 : Ext [] w w1 := by rw [← hw1]; exact ((Ext.refl [] w).alloc _).alloc _
  obtain ⟨hb3, hb4, hs1⟩ := al2_heap (w := w) #[.slice (some ⟨sg, 0, none⟩) D.n sc, .slice (some ⟨tg, 0, none⟩) D.n tc, .slice wo D.W.length wk] #[.bool false] 33 4
  rw [hw1] at hb3 hb4 hs1
  obtain ⟨k0, k1, k2⟩ := three hb3
  have H1 := Lib.hid (And.intro hE1 (And.intro hb3 (And.intro hb4 (And.intro hs1 (And.intro (hD.ext0 hE1) (And.intro (hR.ext0 hE1) (And.intro (hS.ext hE1 (NoT.nil _ _)) (And.intro (hT.ext hE1 (NoT.nil _ _)) (hW.ext hE1 (NoT.nil _ _))))))))))
  have HN := Lib.hid hn
  have HSD := Lib.hid (fun W (hE : Ext [] w1 W) => pm_State d lb sb D W (H1.out.2.2.2.2.1.ext0 hE) hn)
  have HSR := Lib.hid (fun W (hE : Ext [] w1 W) => rf_State _ D W (H1.out.2.2.2.2.2.1.ext0 hE) hn)
  have hne : ∀ w, (binOp .neq 49 (mediaV D) (mediaV D)).run Try.prog w = .ok (.bool false) w := by
    intro w
    unfold mediaV
    rw [neMediaB]
    simp
  obtain ⟨md, hmd⟩ : ∃ md, mediaV D = .agg md := ⟨_, rfl⟩
  rw [hmd] at HSD HSR hne
  have HK : Hid (∀ W, Ext [] w1 W → W.cell? ⟨w.heap.size, 0, none⟩ = some (.slice (some ⟨sg, 0, none⟩) D.n sc) ∧ W.cell? ⟨w.heap.size, 1, none⟩ = some (.slice (some ⟨tg, 0, none⟩) D.n tc) ∧ W.cell? ⟨w.heap.size, 2, none⟩ = some (.slice wo D.W.length wk)) := fun W hE => three (hE.at H1.out.2.1 (by simp))
  clear hE1 hb3 hb4 hs1 hD hR hS hT hW hn hmd
  refine (callsIn_wide (n := 0)).1 (callsIn_of_wp_marks Try.func30 rfl trivial ?_ rfl)
  simp only [Try.ntmps30, List.size_toArray, List.length_cons, List.length_nil, Nat.reduceAdd, Nat.reduceSub, Array.replicate_succ, Array.replicate_zero, List.push_toArray, List.append_toArray, List.nil_append, List.cons_append]
  refine wpIn_wide.2 (wp_mono (Q := NoPanic (bodyPostM Fence.wide 0 Try.prog Try.f30 fun e w' => e = .returned (.bool true) ∧ Ext [] w w')) ?_ NoPanic.out)
  go_upto_region 1 with fail
  try rw [hw1]
  clear hw1
  go_cut [16] from 12 to 16 (fun s wx => s = .bool false ∧ Ext [] w1 wx)
  case first =>
    go_region_held3 (fun W => W.cell? ⟨w.heap.size, 0, none⟩ = some (.slice (some ⟨sg, 0, none⟩) D.n sc) ∧ W.cell? ⟨w.heap.size, 1, none⟩ = some (.slice (some ⟨tg, 0, none⟩) D.n tc) ∧ W.cell? ⟨w.heap.size, 2, none⟩ = some (.slice wo D.W.length wk))
      (first
        | exact HK.out _ (Ext.refl _ _).drew
        | exact HK.out _ hX
        | exact HK.out _ hX2)
      ((first
        | (go_at_call 24; refine (HSD.out _ (Ext.refl _ _).drew).mono ?_; rintro e w2 ⟨rfl, hE2⟩; have hX : Ext [] w1 w2 := (Ext.refl [] w1).drew.trans hE2; clear hE2)
        | (go_at_call 83; refine (HSR.out _ hX).mono ?_; rintro e w3 ⟨rfl, hE3⟩; have hX2 : Ext [] w1 w3 := hX.trans hE3; clear hE3)
        | fail))
    all_goals (go_wp2_with fail; go_meet; exact ⟨rfl, hX2⟩)
  case rest =>
    obtain ⟨rfl, hEc⟩ := hcut
    have HC := Lib.hid hEc
    have hn1 := HN.out.n1
    clear hEc HSD HSR hne k0 k1 k2
    go_wp2
    go_loopg [5] (8 * D.n) (fun cnt i wr => ∃ j : Nat, i = .int .i64 j ∧ j + cnt = 8 * D.n ∧ Ext [] w1 wr)
    case atStart => exact ⟨0, rfl, by omega, HC.out⟩
    case round =>
      obtain ⟨j, rfl, hj, hE⟩ := hrel
      have HE := Lib.hid hE
      clear hE
      have hjm : (j : Int) ≤ 8192 := by omega
      obtain ⟨k0, k1, k2⟩ := three (HE.out.at H1.out.2.1 (by simp))
      by_cases hlt : j < 8 * D.n
      · have hi0 : (0 : Int) ≤ (j : Int) := by omega
        have hi1 : (j : Int) < 8 * (D.n : Int) := by omega
        have hq : j / 8 < D.n := by omega
        have hr : j % 8 < 8 := by omega
        have HLD := Lib.hid (fun W (hE : Ext [] w1 W) => pm_Load d lb sb (j : Int) D W (H1.out.2.2.2.2.1.ext0 hE) HN.out)
        have HST := Lib.hid (fun W (hE : Ext [] w1 W) => pm_Stays d lb sb (j : Int) D W (H1.out.2.2.2.2.1.ext0 hE) HN.out)
        rw [Dv.load_nat hlt] at HLD
        rw [Dv.stays_nat hlt] at HST
        have HT : Hid (∀ W, Ext [] w1 W → W.cell? ⟨sg, j / 8 * 8 + j % 8, none⟩ = some (.int .u64 (D.L j)) ∧ W.cell? ⟨tg, j / 8 * 8 + j % 8, none⟩ = some (.int .u64 (D.S j))) := by
          intro W hE
          have h1 := (H1.out.2.2.2.2.2.2.1.ext hE (NoT.nil _ _)).word hq hr
          have h2 := (H1.out.2.2.2.2.2.2.2.1.ext hE (NoT.nil _ _)).word hq hr
          rw [show 8 * (j / 8) + j % 8 = j from by omega] at h1 h2
          exact ⟨h1, h2⟩
        have e1 : (j : Int) / 8 = ((j / 8 : Nat) : Int) := by omega
        have e2 : (j : Int) % 8 = ((j % 8 : Nat) : Int) := by omega
        have z0 : (0 : Int) ≤ ((j / 8 : Nat) : Int) := by omega
        have z1 : ((j / 8 : Nat) : Int) < (D.n : Int) := by omega
        have d0 : (0 : Int) ≤ ((j % 8 : Nat) : Int) := by omega
        have d1 : ((j % 8 : Nat) : Int) < 8 := by omega
        have hx1 : (D.L j != D.L j) = false := by simp
        have hx2 : (D.S j != D.S j) = false := by simp
        have HJ := Lib.hid (And.intro hj hlt)
        clear hj hlt hq hr
        generalize D.L j = xl at *
        generalize D.S j = xs at *
        generalize j / 8 = q at *
        generalize j % 8 = r at *
        go_wp2_with fail
        refine (HLD.out _ HE.out).mono ?_
        rintro e w4 ⟨rfl, hE4⟩
        have H4 := Lib.hid (HE.out.trans hE4)
        clear hE4 k0 k1 k2
        go_wp2_with fail
        refine (HST.out _ H4.out).mono ?_
        rintro e w5 ⟨rfl, hE5⟩
        have H5 := Lib.hid (H4.out.trans hE5)
        clear hE5
        obtain ⟨k0, k1, k2⟩ := three (H5.out.at H1.out.2.1 (by simp))
        obtain ⟨t1, t2⟩ := HT.out _ H5.out
        go_wp2_with (go_at_call 19; refine (pm_num _ _).mono ?_; rintro e w' ⟨rfl, rfl⟩)
        go_roundg (8 * D.n - (j + 1))
        case measure => have := HJ.out; omega
        case rel => exact ⟨j + 1, by go_num, by have := HJ.out; omega, H5.out⟩
      · have hd : ¬ ((j : Int) < 8 * (D.n : Int)) := by omega
        clear hj hlt
        have hlen := HN.out.len
        have HWT := Lib.hid (fun W (hE : Ext [] w1 W) => pm_Waits d lb sb D W (H1.out.2.2.2.2.1.ext0 hE) HN.out)
        go_upto_region 11 with fail
        obtain ⟨w4, hw4⟩ : ∃ w4, wr.alloc (.cells #[.int .i64 0] 3) = w4 := ⟨_, rfl⟩
        have hE4 : Ext [] wr w4 := by rw [← hw4]; exact (Ext.refl _ _).alloc _
        obtain ⟨nb, hnbE⟩ : ∃ nb, wr.heap.size = nb := ⟨_, rfl⟩
        have hb10 : w4.heap[nb]? = some (.cells #[.int .i64 0] 3 (0, 0)) := by rw [← hw4, ← hnbE]; exact World.alloc_heap_new _ _
        rw [hw4, hnbE]
        have H4 := Lib.hid (And.intro (HE.out.trans hE4) (And.intro hb10 (show w1.heap.size ≤ nb by have := HE.out.size; omega)))
        clear hE4 hb10 hw4 hnbE k0 k1 k2 hd
        go_wp2_with fail
        refine (HWT.out _ H4.out.1).mono ?_
        rintro e w5 ⟨bw', ao', cap', rfl, hE5, _, _, _⟩
        have heq := eqSeq 81 #[.pointer (some ⟨bw', 0, none⟩)] w5
        have H5 := Lib.hid (H4.out.1.trans hE5)
        have H45 := Lib.hid hE5
        clear hE5
        go_wp2_with fail
        refine (HWT.out _ H5.out).mono ?_
        rintro e w6 ⟨bw, ao, cap2, rfl, hE6, hKB, hbw, hao⟩
        have H6 := Lib.hid (And.intro (H5.out.trans hE6) (And.intro ((H45.out.trans hE6).at H4.out.2.1 (by simp)) (And.intro hKB (And.intro (show nb < bw by have := lt_of_block H4.out.2.1; have := H45.out.size; omega) (lt_of_block ((H45.out.trans hE6).at H4.out.2.1 (by simp)))))))
        clear hE6 hKB hbw hao heq HWT
        have hKBn : Hid (∀ W, Ext [nb] w6 W → WKB bw (.slice ao D.W.length cap2) D.W W) := fun W hE => ⟨hE.cell H6.out.2.2.1.1 (by have := H6.out.2.2.2.1; simp; omega), H6.out.2.2.1.2.ext hE (fun g cur hg hm => by
          simp at hm
          subst hm
          rw [H6.out.2.1] at hg
          simp at hg)⟩
        have HBX : Hid (∀ W, Ext [nb] w6 W → W.heap[w.heap.size]? = some (.cells #[.slice (some ⟨sg, 0, none⟩) D.n sc, .slice (some ⟨tg, 0, none⟩) D.n tc, .slice wo D.W.length wk] 33 (0, 0)) ∧ WtR W (.slice wo D.W.length wk) D.W) := fun W hE => by
          have h1 := H1.out.2.2.2.1
          have h2 := H4.out.2.2
          refine ⟨hE.at (H6.out.1.at H1.out.2.1 (by simp)) (by simp; omega), (H1.out.2.2.2.2.2.2.2.2.ext H6.out.1 (NoT.nil _ _)).ext hE (fun g cur hg hm => ?_)⟩
          simp at hm
          subst hm
          rw [H6.out.2.1] at hg
          simp at hg
        obtain ⟨m, hm⟩ : ∃ m, D.W.length = m := ⟨_, rfl⟩
        have HM := Lib.hid hm
        have hmle : m ≤ 1024 := by omega
        clear hlen
        rw [hm] at HBX
        go_wp2
        refine wpIn_wide.1 (wp_range (gf := 81) (lb := #[.pointer (some ⟨bw, 0, none⟩)]) rfl (fun args w => enters_of Try.func81 (by kernel_rfl) rfl args w)
          (waits_seq bw ao cap2 D.W (by omega)) (fun pre x h => by obtain ⟨k, _, _, rfl⟩ := okT_last h; rfl) [nb]
          (fun mm pre W => mm = [nb] ∧ Ext [nb] w6 W ∧ W.heap[nb]? = some (.cells #[.int .i64 pre.length] 3 (0, 0)))
          (fun _ _ => False) ?_ ?_ ?_ ?_ ?_ ?_ ?_ ?_)
        · exact fun mm pre => (Steady.const _ _).and ((Steady.ext (Nat.le_refl _)).and (Steady.block (.inr rfl)))
        · exact fun c => Steady.const _ _
        · rintro mm pre W ⟨_, hE, _⟩
          exact hKBn.out _ hE
        · intro j hj
          simp at hj
          subst hj
          exact H6.out.2.2.2.2
        · exact ⟨rfl, Ext.refl _ _, H6.out.2.1⟩
        · rintro l mm pre x W hl ⟨rfl, hE, hnb⟩ hok
          obtain ⟨q, hq, hpre, rfl⟩ := okT_last hok
          have hpl : pre.length = q := by rw [hpre, encT_len _ _ (by omega)]
          rw [hpl] at hnb
          obtain ⟨hbx, hwt⟩ := HBX.out _ hE
          obtain ⟨g, rfl, x0, _⟩ := WtR.nine hwt hq
          obtain ⟨kk, hkk⟩ : ∃ kk, (D.W.getD q wtD).1 = kk := ⟨_, rfl⟩
          rw [hkk] at x0 ⊢
          have k5 := cell_of (j := 2) (v := .slice (some ⟨g, 0, none⟩) m wk) hbx rfl
          have hqm : q < m := by rw [HM.out] at hq; exact hq
          have HE2 := Lib.hid (And.intro hE (And.intro hnb (And.intro hpl hqm)))
          clear hE hnb hok hpre hbx hwt hkk hq hpl
          intro K hK
          gi_wp2
          refine hK _ W (Ext.refl [] _) ?_
          intro W' hC
          clear hK K
          have bn := hC.block _ _ HE2.out.2.1 (.inr rfl)
          have r5 := (Steady.cell (N := w6.heap.size)) W W' k5 hC
          have r6 := (Steady.cell (N := w6.heap.size)) W W' x0 hC
          have k6 := cell_of (j := 0) (v := .int .i64 q) bn rfl
          have f6 := free_of bn 0
          have HNN := Lib.hid bn
          have HCA := Lib.hid hC
          clear bn hC k5 x0
          have hge : ¬ ((m : Int) ≤ (q : Int)) := by omega
          have hi0 : (0 : Int) ≤ (q : Int) := by omega
          have hi1 : (q : Int) < (m : Int) := by omega
          have hne : ((kk : Int) != (kk : Int)) = false := by simp
          have hw : wrap64 ((q : Int) + 1) = (q : Int) + 1 := IntWalk.wrap64_in _ (by omega)
          have HQ := Lib.hid (And.intro hqm hmle)
          clear hl hqm hmle hjm hn1
          gi_wp2
          refine ⟨(Ext.refl _ W').setCell (.inl (by simp)) _, [nb], Sub.refl _ _, rfl, ((Steady.ext (Nat.le_refl _)) _ _ HE2.out.1 HCA.out).setCell (.inl (by simp)) _, ?_⟩
          first | rw [List.length_append, HE2.out.2.2.1] | rw [HE2.out.2.2.1] | skip
          exact cell1_set HNN.out _
        · intro D2 mm xs W hD2 hx hi hdD
          obtain ⟨rfl, hE, hnb⟩ := hi
          rw [show xs = encT D.W D.W.length from hx, encT_len _ _ (Nat.le_refl _), HM.out] at hnb
          obtain ⟨hbx, _⟩ := HBX.out _ hE
          have k5 := cell_of (j := 2) (v := .slice wo m wk) hbx rfl
          have k6 := cell_of (j := 0) (v := .int .i64 m) hnb rfl
          have h1 := H1.out.2.2.2.1
          have h2 := H4.out.2.2
          have hb4 := hE.at (H6.out.1.at H1.out.2.2.1 (by simp)) (by simp; omega)
          have k4 := cell_of (j := 0) (v := .bool false) hb4 rfl
          have f4 := free_of hb4 0
          have hmm : ((m : Int) == (m : Int)) = true := by simp
          have HZ := Lib.hid (And.intro ((H1.out.1.trans H6.out.1).trans' hE (fun q hq => .inr (by simp at hq; omega))) (And.intro hb4 (And.intro hdD (show w.heap.size + 1 < D2 by have := lt_of_block (H6.out.1.at H1.out.2.2.1 (by simp)); omega))))
          clear hE hnb hx hbx hb4 hdD hD2 h1 h2 hmle hjm hn1
          go_wp2
          obtain ⟨W9, hW9⟩ : ∃ W9, W9 = W.setCell ⟨w.heap.size + 1, 0, none⟩ (.bool true) := ⟨_, rfl⟩
          have b9 : W9.heap[w.heap.size + 1]? = some (.cells #[.bool true] 4 (0, 0)) := by rw [hW9]; exact cell1_set HZ.out.2.1 _
          have hne : D2 ≠ w.heap.size + 1 := by have := HZ.out.2.2.2; omega
          have d9 : W9.heap[D2]? = some (.deferred (some [])) := by rw [hW9]; exact block_sc hne HZ.out.2.2.1
          have e9 : Ext [] w W9 := by rw [hW9]; exact HZ.out.1.setCell (.inr (by simp)) _
          have fin : ∀ (tmps : Array Value), tmps.getD 4 undef = .pointer (some ⟨w.heap.size + 1, 0, none⟩) → LeavesInM Fence.wide 0 Try.prog Try.f30 tmps (fun e w' => e = .returned (.bool true) ∧ Ext [] w w') ([D2].map fun D => { target := .collected D, args := #[] }) .returning W9 := by
            intro tmps ht
            refine leaves_marks (v := .bool true) [D2] W9 (fun D' hD' => ?_) (by simp) (fun w' hE' => ⟨results_cellb Try.results30 _ _ ⟨w.heap.size + 1, 0, none⟩ _ (by kernel_rfl) ht (hE'.cell (cell_of (j := 0) b9 rfl) (by simp; omega)), rfl, ?_⟩)
            · obtain rfl : D' = D2 := by simpa using hD'
              exact d9
            · exact e9.trans' hE' (fun j hj => .inr (by have := HZ.out.2.2.2; simp at hj; omega))
          rw [hW9] at fin
          show LeavesInM _ _ _ _ _ _ _ _ _
          refine fin _ ?_
          rfl
        · intro D2 c W hD2 hi hdD
          exact hi.elim
end Go.Proofs.Ytfojmjkcjdehaaa
