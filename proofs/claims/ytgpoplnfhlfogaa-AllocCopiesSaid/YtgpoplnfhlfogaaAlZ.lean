/- The law's is: a pool stands as the document's. -/
import Derived.Test.YtgpoplnfhlfogaaAlY
namespace Go.Proofs.Ytgpoplnfhlfogaa
open Go Go.RowKit Go.Shelf
attribute [local go_sem] Oper.semAt_some

theorem selL_getD {sel : Int → Bool} {lo : Int} {n i : Nat} (h : i < n) (hs : sel (lo + (i : Int)) = true) : (selL sel lo n).getD (selL sel lo i).length 0 = lo + (i : Int) := by
  obtain ⟨r, hr⟩ := selL_prefix sel lo n (i + 1) (by omega)
  rw [hr, selL_yes hs]
  simp

/-- the iterator of a pool that is none -/
theorem none_seq : SeqC Try.prog 82 #[] (fun _ => False) (fun xs => xs = []) (fun _ => True) := by
  intro l N I Ix hI hIx hK hY w m hN hlw hm h0'
  refine callsIn_of_wp Try.func82 rfl trivial ?_ rfl
  simp only [Try.ntmps82, List.size_toArray, List.length_cons, List.length_nil, Nat.reduceAdd, Nat.reduceSub, Array.replicate_succ, Array.replicate_zero, List.push_toArray, List.append_toArray, List.nil_append, List.cons_append]
  gi_wp2
  go_end0
  exact ⟨⟨_, rfl⟩, .inl ⟨m, h0'⟩⟩

theorem eqfn (g : Nat) (lb : Array Value) (w : World) : (binOp .eql 67 (.func (.func g) #[] lb) .nilFunc).run Try.prog w = .ok (.bool false) w := by
  kernel_rfl
theorem num_q (e : Int) (w : World) : Calls Try.prog 25 #[.int .i64 e] w fun x w' => x = .returned (.int .i64 e) ∧ w' = w :=
  (al_num e w).mono fun _ _ ⟨a, b⟩ => ⟨a, b.symm⟩
theorem countN_in (S : Lns) (lo : Int) (n j : Nat) (h : j < n) : countN S lo (lo + (n : Int) - 1) (lo + (j : Int)) = ((S (lo + (j : Int))).2, 0) := by
  unfold countN hasB
  rw [if_pos (by simp; omega)]

set_option maxRecDepth 100000 in
set_option maxHeartbeats 4000000 in
theorem al_is (c mb : Nat) (lo : Int) (n : Nat) (S : Lns) (ao : Option Addr) (cap : Nat) (w : World) (h0 : -1000000000 ≤ lo) (h1 : lo + n ≤ 1000000000) (hn : n ≤ 1000000) (hp : Pool w c mb lo (lo + (n : Int) - 1) S) (hR : RPl w ao lo n S) :
    Calls Try.prog 34 #[.pointer (some ⟨c, 0, none⟩), .agg #[.int .i64 lo, .slice ao n cap]] w fun e w' => e = .returned (.bool true) ∧ Ext [] w w' := by
  obtain ⟨hb3, hb4, hs1⟩ := al2_heap (w := w) #[.int .i64 lo, .slice ao n cap] #[.bool false] 56 4
  have hE1 := ((Ext.refl [] w).alloc (.cells #[.int .i64 lo, .slice ao n cap] 56)).alloc (.cells #[.bool false] 4)
  generalize hw1 : (w.alloc (.cells #[.int .i64 lo, .slice ao n cap] 56)).alloc (.cells #[.bool false] 4) = w1 at *
  have hcw : c < w.heap.size ∧ mb < w.heap.size := ⟨lt_of_block hp.1, hp.2.lt⟩
  have H0 := Lib.hid (And.intro hp hR)
  have k1 := cell_of (j := 0) (v := .int .i64 lo) hb3 rfl
  have k2 := cell_of (j := 1) (v := .slice ao n cap) hb3 rfl
  have H1 := Lib.hid (And.intro hE1 (And.intro hb3 (And.intro hb4 (And.intro hs1 (And.intro (hp.ext hE1 (by simp) (by simp)) (And.intro (hR.ext0 hE1) hcw))))))
  clear hE1 hb3 hb4 hs1 hp hR hcw
  refine (callsIn_wide (n := 0)).1 (callsIn_of_wp_marks Try.func34 rfl trivial ?_ rfl)
  simp only [Try.ntmps34, List.size_toArray, List.length_cons, List.length_nil, Nat.reduceAdd, Nat.reduceSub, Array.replicate_succ, Array.replicate_zero, List.push_toArray, List.append_toArray, List.nil_append, List.cons_append]
  refine wpIn_wide.2 (wp_mono (Q := NoPanic (bodyPostM Fence.wide 0 Try.prog Try.f34 fun e w' => e = .returned (.bool true) ∧ Ext [] w w')) ?_ NoPanic.out)
  go_wp2_with fail
  refine (rf_Those lo ao n cap S true w1 h0 h1 hn H1.out.2.2.2.2.2.1).mono ?_
  rintro e w2 ⟨v, rfl, hO, hE2⟩
  obtain ⟨ao2, cap2, rfl, hI2, hN2⟩ := ints_of_owns hO
  clear hO k1 k2 hw1
  have hml := thoseL_le S true lo n
  have hmf := those_len S lo n
  have HG : Hid (∀ i, i < n → (S (lo + (i : Int))).1 = true → (selL (fun k => (S k).1) lo i).length < (thoseL S true lo n).length ∧ (thoseL S true lo n).getD (selL (fun k => (S k).1) lo i).length 0 = lo + (i : Int)) := by
    intro i hi hs
    rw [← sel_taken]
    exact ⟨selL_lt hi hs, selL_getD (sel := fun k => (S k).1) hi hs⟩
  have HD : Hid ((selL (fun k => (S k).1) lo n).length = (thoseL S true lo n).length) := by unfold Hid; rw [sel_taken]
  generalize thoseL S true lo n = ks at *
  generalize hf : (thoseL S false lo n).length = f at *
  generalize hm : ks.length = m at *
  go_wp2_with fail
  obtain ⟨hb5, hb6, hs3⟩ := al2_heap (w := w2) #[.slice ao2 m cap2] #[.int .i64 0] 43 3
  have hE3 := ((Ext.refl [] w2).alloc (.cells #[.slice ao2 m cap2] 43)).alloc (.cells #[.int .i64 0] 3)
  generalize hw3 : (w2.alloc (.cells #[.slice ao2 m cap2] 43)).alloc (.cells #[.int .i64 0] 3) = w3 at *
  have H2 := Lib.hid (And.intro hI2 hE3)
  have H3 := Lib.hid (And.intro (hE2.trans hE3) (And.intro hb5 (And.intro hb6 (And.intro hs3 (And.intro (hI2.ext hE3) hN2)))))
  have z2 : w.heap.size + 2 ≤ w2.heap.size := by have := hE2.size; have := H1.out.2.2.2.1; omega
  clear hE2 hE3 hb5 hb6 hI2 hN2
  have HFM := Lib.hid (And.intro hf (And.intro hm hmf))
  clear hf hm
  refine (al_Lines c mb lo n S w3 (H1.out.2.2.2.2.1.ext H3.out.1 (by simp) (by simp))).mono ?_
  rintro e w4 ⟨bb', bs', bw', rfl, hE4, _, _, _, _⟩
  have heq := eqfn 106 #[.pointer (some ⟨bb', 0, none⟩), .pointer (some ⟨bs', 0, none⟩)] w4
  go_wp2_with fail
  refine (al_Lines c mb lo n S w4 ((H1.out.2.2.2.2.1.ext H3.out.1 (by simp) (by simp)).ext hE4 (by simp) (by simp))).mono ?_
  rintro e w5 ⟨bb, bs, bw, rfl, hE5, hL5, hbb, hbs, hbw⟩
  have z4 : w2.heap.size + 2 ≤ w4.heap.size := by have := hE4.size; omega
  have z5 : w4.heap.size ≤ w5.heap.size := hE5.size
  have HE5 := Lib.hid (And.intro (H1.out.1.trans (H3.out.1.trans (hE4.trans hE5))) (And.intro ((H3.out.1.trans (hE4.trans hE5))) (And.intro (hE4.trans hE5) hL5)))
  clear hE4 hE5 hL5 hw3
  go_wp2
  refine wpIn_wide.1 (wp_range (gf := 106) (lb := #[.pointer (some ⟨bb, 0, none⟩), .pointer (some ⟨bs, 0, none⟩)]) rfl (fun args w => enters_of Try.func106 (by kernel_rfl) rfl args w)
    (lines_seq bb bs bw mb lo n S h0 h1) (fun pre x h => by obtain ⟨i, _, _, _, rfl⟩ := okL_last h; rfl) [w2.heap.size + 1]
    (fun mm pre W => mm = [w2.heap.size + 1] ∧ Ext [w2.heap.size + 1] w5 W ∧ W.heap[w2.heap.size + 1]? = some (.cells #[.int .i64 pre.length] 3 (0, 0)))
    (fun _ _ => False) ?_ ?_ ?_ ?_ ?_ ?_ ?_ ?_)
  · exact fun mm pre => (Steady.const _ _).and ((Steady.ext (Nat.le_refl _)).and (Steady.block (.inr rfl)))
  · exact fun c => Steady.const _ _
  · rintro mm pre W ⟨_, hE, _⟩
    have hcw := H1.out.2.2.2.2.2.2
    exact (HE5.out.2.2.2.ext hE (by simp; omega) (by simp; omega) (by simp; omega) (by simp; omega)).kb
  · intro j hj
    simp at hj
    omega
  · exact ⟨rfl, Ext.refl _ _, HE5.out.2.2.1.at H3.out.2.2.1 (by simp)⟩
  · rintro l mm pre x W hl ⟨rfl, hE, hnb⟩ hok
    obtain ⟨i, hi, hsl, rfl, rfl⟩ := okL_last hok
    rw [encI_len] at hnb
    obtain ⟨hqm, hgd⟩ := HG.out i hi hsl
    generalize hq : (selL (fun k => (S k).1) lo i).length = q at *
    generalize hkk : lo + (i : Int) = kk at *
    obtain ⟨b, off, rfl, hr⟩ : ∃ b off, ao2 = some ⟨b, off, none⟩ ∧ W.cell? ⟨b, off + q, none⟩ = some (.int .i64 kk) := by
      rcases H2.out.1 with h | ⟨b, off, h1, h2⟩
      · omega
      · have h3 : w2.cell? ⟨b, off + q, none⟩ = some (.int .i64 kk) := by rw [← hgd]; exact h2 q hqm
        have hlb : b < w2.heap.size := World.block_lt_of_cell? _ _ h3
        exact ⟨b, off, h1, hE.cell ((H2.out.2.trans HE5.out.2.2.1).cell h3 (by simp)) (by simp; omega)⟩
    have k5 := hE.cell (cell_of (j := 0) (v := .slice (some ⟨b, off, none⟩) m cap2) (HE5.out.2.2.1.at H3.out.2.1 (by simp)) rfl) (by simp)
    have HE := Lib.hid (And.intro hE hnb)
    have HQ0 := Lib.hid hq
    clear hE hnb hok hsl hgd hkk hq
    intro K hK
    gi_wp2
    refine hK _ W (Ext.refl [] _) ?_
    intro W' hC
    clear hK K
    have bn := hC.block _ _ HE.out.2 (.inr rfl)
    have r5 := (Steady.cell (N := w5.heap.size)) W W' k5 hC
    have r6 := (Steady.cell (N := w5.heap.size)) W W' hr hC
    have k6 := cell_of (j := 0) (v := .int .i64 q) bn rfl
    have f6 := free_of bn 0
    have HN := Lib.hid bn
    have HCA := Lib.hid hC
    clear bn hC k5 hr
    have hge : ¬ ((m : Int) ≤ (q : Int)) := by omega
    have hi0 : (0 : Int) ≤ (q : Int) := by omega
    have hi1 : (q : Int) < (m : Int) := by omega
    have hne : (kk != kk) = false := by simp
    have hw : wrap64 ((q : Int) + 1) = (q : Int) + 1 := IntWalk.wrap64_in _ (by omega)
    clear heq hml hmf z2 z4 z5 hbb hbs hbw hs3 hl
    gi_wp2
    refine ⟨(Ext.refl _ W').setCell (.inl (by simp)) _, [w2.heap.size + 1], Sub.refl _ _, rfl, ((Steady.ext (Nat.le_refl _)) _ _ HE.out.1 HCA.out).setCell (.inl (by simp)) _, ?_⟩
    first | rw [List.length_append, encI_len, HQ0.out] | rw [encI_len, HQ0.out] | skip
    exact cell1_set HN.out _
  · intro D mm xs W hD hx hi hdD
    obtain ⟨rfl, hE, hnb⟩ := hi
    rw [show xs = encI (selL (fun k => (S k).1) lo n) from hx, encI_len, HD.out] at hnb
    have hcw := H1.out.2.2.2.2.2.2
    have hEw1 : Ext [w2.heap.size + 1] w1 W := HE5.out.2.1.wide.trans hE
    have n6 : w2.heap.size + 1 ≠ w.heap.size := by omega
    have n7 : w2.heap.size + 1 ≠ w.heap.size + 1 := by omega
    have k1 := cell_of (j := 0) (v := .int .i64 lo) (hEw1.at H1.out.2.1 (by simp; omega)) rfl
    have k2 := cell_of (j := 1) (v := .slice ao n cap) (hEw1.at H1.out.2.1 (by simp; omega)) rfl
    have hb4 := hEw1.at H1.out.2.2.1 (by simp; omega)
    have hEw : Ext [] w W := HE5.out.1.trans' hE (fun j hj => .inr (by simp at hj; omega))
    have hpW := H0.out.1.ext hEw (by simp) (by simp)
    have hRW : RPl W ao lo n S := H0.out.2.ext0 hEw
    have hb5 := hE.at (HE5.out.2.2.1.at H3.out.2.1 (by simp)) (by simp)
    have HW := Lib.hid (And.intro hEw (And.intro hb4 (And.intro hpW (And.intro hRW (And.intro hnb (And.intro hdD (And.intro hb5 (And.intro hD (And.intro z2 (And.intro z4 (And.intro z5 hmf)))))))))))
    clear hE hnb hx hcw hEw hEw1 hb4 hpW hRW hdD hb5 hD z2 z4 z5 hmf hml hs3 hbb hbs hbw heq n6 n7
    go_wp2
    go_loopg [8] n (fun k i wr => ∃ j : Nat, i = .int .i64 j ∧ j + k = n ∧ Ext [] W wr)
    case atStart => exact ⟨0, rfl, by omega, Ext.refl _ _⟩
    case round =>
      obtain ⟨j, rfl, hjk, hE⟩ := hrel
      have q1 := hE.cell k1 (by simp)
      have q2 := hE.cell k2 (by simp)
      have HE := Lib.hid hE
      clear hE k1 k2
      by_cases hlt : j < n
      · obtain ⟨b, off, rfl, e1, e2⟩ : ∃ b off, ao = some ⟨b, off, none⟩ ∧ wr.cell? ⟨b, off + j * 2, none⟩ = some (.bool (S (lo + (j : Int))).1) ∧ wr.cell? ⟨b, off + j * 2 + 1, none⟩ = some (.int .i64 (S (lo + (j : Int))).2) := by
          rcases HW.out.2.2.2.1.ext0 HE.out with h | ⟨b, off, h1, h2⟩
          · omega
          · exact ⟨b, off, h1, (h2 j hlt)⟩
        have hp1 := HW.out.2.2.1.ext HE.out (by simp) (by simp)
        have HC := Lib.hid (al_Count c mb lo (lo + (n : Int) - 1) S (lo + (j : Int)) wr hp1)
        rw [countN_in S lo n j hlt] at HC
        have HT := Lib.hid (fun W' (hE : Ext [] wr W') => (al_Taken c mb lo (lo + (n : Int) - 1) S (lo + (j : Int)) W' (hp1.ext hE (by simp) (by simp))).mono (fun e w' h => (⟨h.1, h.2.symm⟩ : _ ∧ w' = W')))
        have hwj : wrap64 (lo + (j : Int)) = lo + (j : Int) := IntWalk.wrap64_in _ (by omega)
        have hi0 : (0 : Int) ≤ (j : Int) := by omega
        have hi1 : (j : Int) < (n : Int) := by omega
        clear hp1
        obtain ⟨kk, hkk⟩ : ∃ kk, lo + (j : Int) = kk := ⟨_, rfl⟩
        rw [hkk] at HC HT e1 e2 hwj
        generalize (S kk).1 = t at *
        generalize (S kk).2 = u at *
        have hu : (u != u) = false := by simp
        have ht : (t != t) = false := by simp
        go_wp2_with fail
        refine HC.out.mono ?_
        rintro e w6 ⟨rfl, hE6⟩
        have r1 := hE6.cell q1 (by simp)
        have r2 := hE6.cell q2 (by simp)
        have r3 := hE6.cell e1 (by simp)
        have r4 := hE6.cell e2 (by simp)
        have H6 := Lib.hid hE6
        clear q1 q2 e1 e2 hE6
        go_wp2
        go_quiet (first | (go_at_call 25; exact Calls.quiet_of_same (num_q _ _)) | (go_at_call 37; exact Calls.quiet_of_same (HT.out _ (Ext.drewN H6.out _))))
        go_wp2
        go_roundg (n - (j + 1))
        case measure => omega
        case rel => exact ⟨j + 1, by go_num, by omega, Ext.drewN (HE.out.trans H6.out) _⟩
      · have HFR := Lib.hid (fun W' (hE' : Ext [] wr W') => al_Free c mb lo n S W' h0 h1 (HW.out.2.2.1.ext (HE.out.trans hE') (by simp) (by simp)))
        rw [HFM.out.1] at HFR
        have hb6 := HE.out.at HW.out.2.2.2.2.1 (by simp)
        have hb5 := HE.out.at HW.out.2.2.2.2.2.2.1 (by simp)
        have hb4 := HE.out.at HW.out.2.1 (by simp)
        have q6 := cell_of (j := 0) (v := .int .i64 m) hb6 rfl
        have q5 := cell_of (j := 0) (v := .slice ao2 m cap2) hb5 rfl
        have q4 := cell_of (j := 0) (v := .bool false) hb4 rfl
        have f4 := free_of hb4 0
        have z4 : w.heap.size + 1 < wr.heap.size := lt_of_block hb4
        have hsub : wrap64 ((n : Int) - (m : Int)) = (f : Int) := by
          have := HW.out.2.2.2.2.2.2.2.2.2.2.2
          rw [IntWalk.wrap64_in _ (by omega)]
          omega
        have hm1 : ((m : Int) == (m : Int)) = true := by simp
        have hf1 : ((f : Int) == IntKind.i64.wrap ((n : Int) - (m : Int))) = true := by
          rw [show IntKind.i64.wrap ((n : Int) - (m : Int)) = (f : Int) from (IntWalk.i64_left _).trans hsub]
          simp
        have HB4 := Lib.hid (And.intro hb4 (HE.out.at HW.out.2.2.2.2.2.1 (by simp)))
        clear hb6 hb5 hb4 hsub
        go_wp2
        have HZ := Lib.hid (And.intro h0 (And.intro h1 (And.intro hn hjk)))
        clear h0 h1 hn hjk hlt
        go_region_with (go_at_call 23; refine (HFR.out _ ?_).mono ?_; exact Ext.drew (Ext.refl _ _); rintro e w7 ⟨rfl, hE7⟩; have r1 := hE7.cell q1 (by simp); have r2 := hE7.cell q2 (by simp); have r6 := hE7.cell q6 (by simp); have r5 := hE7.cell q5 (by simp); have r4 := hE7.cell q4 (by simp); have g4 := hE7.frozen f4 z4 (by simp); have H7 := Lib.hid hE7; clear hE7 q1 q2 q6 q5 q4 f4 z4)
        all_goals go_wp2
        all_goals
          obtain ⟨W9, hW9⟩ : ∃ W9, W9 = w7.setCell ⟨w.heap.size + 1, 0, none⟩ (.bool true) := ⟨_, rfl⟩
          have b9 : W9.heap[w.heap.size + 1]? = some (.cells #[.bool true] 4 (0, 0)) := by rw [hW9]; exact cell1_set (H7.out.at HB4.out.1 (by simp)) _
          have hne : D ≠ w.heap.size + 1 := by have := HW.out.2.2.2.2.2.2.2; omega
          have d9 : W9.heap[D]? = some (.deferred (some [])) := by rw [hW9]; exact block_sc hne (H7.out.at HB4.out.2 (by simp))
          have e9 : Ext [] w W9 := by
            rw [hW9]
            exact ((HW.out.1.trans HE.out).trans (show Ext [] wr w7 from ((Ext.refl [] wr).drew).trans H7.out)).setCell (.inr (by simp)) _
          have fin : ∀ (tmps : Array Value), tmps.getD 4 undef = .pointer (some ⟨w.heap.size + 1, 0, none⟩) → LeavesInM Fence.wide 0 Try.prog Try.f34 tmps (fun e w' => e = .returned (.bool true) ∧ Ext [] w w') ([D].map fun D => { target := .collected D, args := #[] }) .returning W9 := by
            intro tmps ht
            refine leaves_marks (v := .bool true) [D] W9 (fun D' hD' => ?_) (by simp) (fun w' hE' => ⟨results_cellb Try.results34 _ _ ⟨w.heap.size + 1, 0, none⟩ _ (by kernel_rfl) ht (hE'.cell (cell_of (j := 0) b9 rfl) (by simp; omega)), rfl, ?_⟩)
            · obtain rfl : D' = D := by simpa using hD'
              exact d9
            · exact e9.trans' hE' (fun j hj => .inr (by have := HW.out.2.2.2.2.2.2.2; simp at hj; omega))
          rw [hW9] at fin
          show LeavesInM _ _ _ _ _ _ _ _ _
          refine fin _ ?_
          rfl
  · intro D c W hD hi hdD
    exact hi.elim
end Go.Proofs.Ytgpoplnfhlfogaa
