/- The law's act: Load and Stays. -/
import Derived.Test.YtfojmjkcjdehaaaPnN
import Derived.Test.YtfojmjkcjdehaaaHld
namespace Go.Proofs.Ytfojmjkcjdehaaa
open Go Go.RowKit Go.Shelf
attribute [local go_sem] Oper.semAt_some

theorem Dv.has_n {D E : Dv} (h : D.n = E.n) (k : Int) : D.has k = E.has k := by unfold Dv.has; rw [h]
theorem Dv.stays_in {D : Dv} {k : Int} (h : D.has k = true) : D.stays k = (D.S k.toNat, 0) := by unfold Dv.stays; rw [h]; rfl
theorem Dv.stays_out {D : Dv} {k : Int} (h : D.has k = false) : D.stays k = (0, 4) := by unfold Dv.stays; rw [h]; rfl


set_option maxRecDepth 100000 in
set_option maxHeartbeats 4000000 in
theorem act_load (d lb sb : Nat) (D E : Dv) (v : Value) (what a ln wd fr : Int) (bo : Option Addr) (bn bc : Nat) (hnn : D.n = E.n) (hw : what = 0 ∨ what = 7) (w : World) (hD : DevAt w d lb sb D) (hn : DvOk D) (hR : RefAt w v E) (hm : DvOk E) :
    Calls Try.prog 15 #[.pointer (some ⟨d, 0, none⟩), v, .agg #[.int .i64 what, .int .i64 a, .int .i64 ln, .int .u64 wd, .int .u64 fr, .slice bo bn bc]] w (ActP w d lb sb D E (D = E)) := by

  have HNN := Lib.hid (Dv.has_n hnn a)
  clear hnn
  have hRR := hR
  obtain ⟨sg, sc, tg, tc, wo, wc, rfl, _, _, _⟩ := hRR
  obtain ⟨W0, hw0⟩ : ∃ W0, ((w.alloc (.cells #[.slice (some ⟨sg, 0, none⟩) E.n sc, .slice (some ⟨tg, 0, none⟩) E.n tc, .slice wo E.W.length wc] 33)).alloc (.cells #[.int .i64 what, .int .i64 a, .int .i64 ln, .int .u64 wd, .int .u64 fr, .slice bo bn bc] 39)).alloc (.cells #[.slice none 0 0, .slice none 0 0, .slice none 0 0] 33) = W0 := ⟨_, rfl⟩
  have hE0 : Ext [] w W0 := by rw [← hw0]; exact (((Ext.refl [] w).alloc _).alloc _).alloc _
  obtain ⟨hb4, hb5, hb7, hs0⟩ := al3_heap (w := w) #[.slice (some ⟨sg, 0, none⟩) E.n sc, .slice (some ⟨tg, 0, none⟩) E.n tc, .slice wo E.W.length wc] #[.int .i64 what, .int .i64 a, .int .i64 ln, .int .u64 wd, .int .u64 fr, .slice bo bn bc] #[.slice none 0 0, .slice none 0 0, .slice none 0 0] 33 39 33
  rw [hw0] at hb4 hb5 hb7 hs0
  obtain ⟨hdl, hll, hsl⟩ := hD.lt
  have hnb : ∀ q, w.heap.size ≤ q → q ∉ [d, lb, sb] := fun q hq hm => by simp at hm; omega
  have H0 := Lib.hid (And.intro hE0 (And.intro hb4 (And.intro hb5 (And.intro hb7 (And.intro hs0 (And.intro (hD.ext0 hE0) (And.intro (hR.ext0 hE0) (And.intro hnb hD))))))))
  have HN := Lib.hid (And.intro hn hm)
  obtain ⟨a0, a1, a2, a3, a4, a5⟩ := six hb5
  have a0' := a0
  obtain ⟨k0, k1, k2⟩ := three hb4
  clear hE0 hb4 hb5 hb7 hs0 hD hR hdl hll hsl hnb hn hm
  have HLD := Lib.hid (fun W (hE : Ext [] W0 W) => pm_Load d lb sb a D W (H0.out.2.2.2.2.2.1.ext0 hE) HN.out.1)
  have HST := Lib.hid (fun W (hE : Ext [] W0 W) => pm_Stays d lb sb a D W (H0.out.2.2.2.2.2.1.ext0 hE) HN.out.1)
  have HRL := Lib.hid (fun W (hE : Ext [] W0 W) => rf_Load (.agg #[.slice (some ⟨sg, 0, none⟩) E.n sc, .slice (some ⟨tg, 0, none⟩) E.n tc, .slice wo E.W.length wc]) E a W (H0.out.2.2.2.2.2.2.1.ext0 hE) HN.out.2)
  clear k0 k1 k2 a0 a1 a2 a3 a4 a5 a0'
  cases hh : D.has a with
  | false =>
    rw [Dv.load_out hh] at HLD
    rw [Dv.stays_out hh] at HST
    rw [Dv.load_out (by rw [← HNN.out]; exact hh)] at HRL
    clear hh
    obtain ⟨a0, a1, a2, a3, a4, a5⟩ := six H0.out.2.2.1
    obtain ⟨k0, k1, k2⟩ := three H0.out.2.1
    rcases hw with rfl | rfl
    all_goals
      go_enter Try.func15, Try.ntmps15
      go_wp2_with fail
      refine (HLD.out _ (Ext.refl _ _)).mono ?_
      rintro e w1 ⟨rfl, hE1⟩
      have H1 := Lib.hid hE1
      clear hE1 hw0
      obtain ⟨a0, a1, a2, a3, a4, a5⟩ := six (H1.out.at H0.out.2.2.1 (by simp))
      go_wp2_with fail
      refine (HST.out _ H1.out).mono ?_
      rintro e w2 ⟨rfl, hE2⟩
      have H2 := Lib.hid (H1.out.trans hE2)
      clear hE2
      obtain ⟨a0, a1, a2, a3, a4, a5⟩ := six (H2.out.at H0.out.2.2.1 (by simp))
      obtain ⟨k0, k1, k2⟩ := three (H2.out.at H0.out.2.1 (by simp))
      go_wp2_with fail
      refine (HRL.out _ H2.out).mono ?_
      rintro e W3 ⟨rfl, hE3⟩
      have H3 := Lib.hid (H2.out.trans hE3)
      clear hE3
      go_upto_region 10 with fail
      have HK : Hid (∀ W, Ext [w.heap.size + 2] W3 W → W.cell? ⟨w.heap.size, 0, none⟩ = some (.slice (some ⟨sg, 0, none⟩) E.n sc) ∧ W.cell? ⟨w.heap.size, 1, none⟩ = some (.slice (some ⟨tg, 0, none⟩) E.n tc) ∧ W.cell? ⟨w.heap.size, 2, none⟩ = some (.slice wo E.W.length wc)) := fun W hE => three ((H3.out.wide.trans hE).at H0.out.2.1 (by simp))
      have hb7 := H3.out.at H0.out.2.2.2.1 (by simp)
      have HB7 := Lib.hid hb7
      clear hb7 a0 a1 a2 a3 a4 a5 k0 k1 k2
      refine wp_region_hd (S := Ext [w.heap.size + 2] W3) 22 (by kernel_rfl) (by kernel_rfl) (fun _ d _ _ _ h => by cases d <;> exact h) (Ext.refl _ _).drew ?_
      simp only [List.take_succ_cons, List.take_zero, List.drop_succ_cons, List.drop_zero]
      repeat (first
        | (refine wpHd_no (by rfl) ?_; simp only [Act.put, List.setIfInBounds_toArray, List.set_cons_zero, List.set_cons_succ])
        | (refine wpHd_yes ?_ (by rfl) (fun w hSw => ?_) ?_
           rotate_left
           · (obtain ⟨q0, q1, q2⟩ := HK.out _ hSw; clear hSw; go_simp; first | exact ⟨rfl, rfl⟩ | exact rfl | exact pm_numQ _ _)
           simp only [Act.put, List.setIfInBounds_toArray, List.set_cons_zero, List.set_cons_succ]))
      refine wpHd_nil ?_
      obtain ⟨m0, m1, m2⟩ := three HB7.out
      have f0 := free_of HB7.out 0
      have f1 := free_of HB7.out 1
      have f2 := free_of HB7.out 2
      repeat (
        refine wpTl_step (by rfl) (fun K hK => ?_)
        go_simp
        refine hK _ _ (by first | exact (Ext.refl _ _).drew | exact ext_three (Ext.refl [_] _).drew (.inl (by simp)) _ _ _) ?_
        clear hK K
        try simp only [Act.put, List.setIfInBounds_toArray, List.set_cons_zero, List.set_cons_succ])
      refine wpTl_nil ?_
      go_wp2
      have hE4 : Ext [] W3 W3.drew := (Ext.refl [] W3).drew
      refine bodyPost_ret (results_tct Try.results15 _ _ (w.heap.size + 2) _ #[.slice (some ⟨sg, 0, none⟩) E.n sc, .slice (some ⟨tg, 0, none⟩) E.n tc, .slice wo E.W.length wc] _ _ _ _ rfl rfl (tri_set (hE4.at HB7.out (by simp)) _ _ _) rfl Try.underlying33 rfl (by kernel_rfl)) rfl ?_
      exact act_fin (hE4.at HB7.out (by simp)) (by omega) (H0.out.1.wide.trans (H3.out.trans hE4).wide) (H0.out.2.2.2.2.2.1.ext0 (H3.out.trans hE4)) (H0.out.2.2.2.2.2.2.1.ext0 (H3.out.trans hE4)) (.inl rfl) (.inl rfl) (.inl rfl) (fun _ => rfl)
  | true =>
    obtain ⟨k, rfl, hk⟩ := Dv.has_in hh
    have hkE : E.has (k : Int) = true := by rw [← HNN.out]; exact hh
    rw [Dv.load_in hh] at HLD
    rw [Dv.stays_in hh] at HST
    rw [Dv.load_in hkE] at HRL
    simp only [Int.toNat_natCast] at HLD HST HRL
    have hkn : k < 8 * E.n := by obtain ⟨k2, h1, h2⟩ := Dv.has_in hkE; omega
    have hq : k / 8 < E.n := by omega
    have hr : k % 8 < 8 := by omega
    obtain ⟨xw, hxw⟩ : ∃ xw, D.L k = xw := ⟨_, rfl⟩
    obtain ⟨xn, hxn⟩ : ∃ xn, E.L k = xn := ⟨_, rfl⟩
    obtain ⟨xv, hxv⟩ : ∃ xv, D.S k = xv := ⟨_, rfl⟩
    obtain ⟨xs, hxs⟩ : ∃ xs, E.S k = xs := ⟨_, rfl⟩
    obtain ⟨c1, hc1⟩ : ∃ c1, (xw == xn) = c1 := ⟨_, rfl⟩
    obtain ⟨c2, hc2⟩ : ∃ c2, (xv == xs) = c2 := ⟨_, rfl⟩
    have HQ := Lib.hid (show D = E → (c1 && c2) = true from fun h => by subst h; rw [← hc1, ← hc2, ← hxw, ← hxn, ← hxv, ← hxs]; simp)
    have HT : Hid (∀ W, Ext [] W0 W → W.cell? ⟨tg, k / 8 * 8 + k % 8, none⟩ = some (.int .u64 xs)) := by
      obtain ⟨sg', sc', tg', tc', wo', wc', hv, _, hT, _⟩ := H0.out.2.2.2.2.2.2.1
      cases hv
      intro W hE
      have := (hT.ext hE (NoT.nil _ _)).word hq hr
      rw [show 8 * (k / 8) + k % 8 = k from by omega, hxs] at this
      exact this
    rw [hxw] at HLD
    rw [hxv] at HST
    rw [hxn] at HRL
    have e1 : (k : Int) / 8 = ((k / 8 : Nat) : Int) := by omega
    have e2 : (k : Int) % 8 = ((k % 8 : Nat) : Int) := by omega
    have b0 : (0 : Int) ≤ (k : Int) := by omega
    have b1 : (k : Int) ≤ 8191 := by have := HN.out.2.n1; omega
    have z0 : (0 : Int) ≤ ((k / 8 : Nat) : Int) := by omega
    have z1 : ((k / 8 : Nat) : Int) < (E.n : Int) := by omega
    have d0 : (0 : Int) ≤ ((k % 8 : Nat) : Int) := by omega
    have d1 : ((k % 8 : Nat) : Int) < 8 := by omega
    clear hh hk hkE hkn hq hr hxw hxn hxv hxs
    generalize k / 8 = q at *
    generalize k % 8 = r at *
    generalize (k : Int) = kk at *
    have HC := Lib.hid (And.intro hc1 hc2)
    clear hc1 hc2
    obtain ⟨a0, a1, a2, a3, a4, a5⟩ := six H0.out.2.2.1
    obtain ⟨k0, k1, k2⟩ := three H0.out.2.1
    rcases hw with rfl | rfl
    all_goals
      go_enter Try.func15, Try.ntmps15
      go_wp2_with fail
      refine (HLD.out _ (Ext.refl _ _)).mono ?_
      rintro e w1 ⟨rfl, hE1⟩
      have H1 := Lib.hid hE1
      clear hE1 hw0
      obtain ⟨a0, a1, a2, a3, a4, a5⟩ := six (H1.out.at H0.out.2.2.1 (by simp))
      go_wp2_with fail
      refine (HST.out _ H1.out).mono ?_
      rintro e w2 ⟨rfl, hE2⟩
      have H2 := Lib.hid (H1.out.trans hE2)
      clear hE2
      obtain ⟨a0, a1, a2, a3, a4, a5⟩ := six (H2.out.at H0.out.2.2.1 (by simp))
      obtain ⟨k0, k1, k2⟩ := three (H2.out.at H0.out.2.1 (by simp))
      go_wp2_with fail
      refine (HRL.out _ H2.out).mono ?_
      rintro e w4 ⟨rfl, hE3⟩
      have H4 := Lib.hid (H2.out.trans hE3)
      clear hE3
      obtain ⟨a0, a1, a2, a3, a4, a5⟩ := six (H4.out.at H0.out.2.2.1 (by simp))
      obtain ⟨k0, k1, k2⟩ := three (H4.out.at H0.out.2.1 (by simp))
      have ht := HT.out _ H4.out
      go_wp2
      go_quiet (fail)
      go_upto_region 10 with fail
      generalize hW3 : w4.drewN _ = W3
      have hE3 : Ext [] W0 W3 := by rw [← hW3]; exact H4.out.drewN _
      have H3 := Lib.hid hE3
      clear hE3 hW3 ht
      obtain ⟨hc1, hc2⟩ := HC.out
      cases c1 <;> cases c2
      all_goals
        have HK : Hid (∀ W, Ext [w.heap.size + 2] W3 W → W.cell? ⟨w.heap.size, 0, none⟩ = some (.slice (some ⟨sg, 0, none⟩) E.n sc) ∧ W.cell? ⟨w.heap.size, 1, none⟩ = some (.slice (some ⟨tg, 0, none⟩) E.n tc) ∧ W.cell? ⟨w.heap.size, 2, none⟩ = some (.slice wo E.W.length wc)) := fun W hE => three ((H3.out.wide.trans hE).at H0.out.2.1 (by simp))
        have hb7 := H3.out.at H0.out.2.2.2.1 (by simp)
        have HB7 := Lib.hid hb7
        clear hb7 a0 a1 a2 a3 a4 a5 k0 k1 k2
        refine wp_region_hd (S := Ext [w.heap.size + 2] W3) 22 (by kernel_rfl) (by kernel_rfl) (fun _ d _ _ _ h => by cases d <;> exact h) (Ext.refl _ _).drew ?_
        simp only [List.take_succ_cons, List.take_zero, List.drop_succ_cons, List.drop_zero]
        repeat (first
          | (refine wpHd_no (by rfl) ?_; simp only [Act.put, List.setIfInBounds_toArray, List.set_cons_zero, List.set_cons_succ])
          | (refine wpHd_yes ?_ (by rfl) (fun w hSw => ?_) ?_
             rotate_left
             · (obtain ⟨q0, q1, q2⟩ := HK.out _ hSw; clear hSw; go_simp; first | exact ⟨rfl, rfl⟩ | exact rfl | exact pm_numQ _ _)
             simp only [Act.put, List.setIfInBounds_toArray, List.set_cons_zero, List.set_cons_succ]))
        refine wpHd_nil ?_
        obtain ⟨m0, m1, m2⟩ := three HB7.out
        have f0 := free_of HB7.out 0
        have f1 := free_of HB7.out 1
        have f2 := free_of HB7.out 2
        repeat (
          refine wpTl_step (by rfl) (fun K hK => ?_)
          go_simp
          refine hK _ _ (by first | exact (Ext.refl _ _).drew | exact ext_three (Ext.refl [_] _).drew (.inl (by simp)) _ _ _) ?_
          clear hK K
          try simp only [Act.put, List.setIfInBounds_toArray, List.set_cons_zero, List.set_cons_succ])
        refine wpTl_nil ?_
        go_wp2
        have hE4 : Ext [] W3 W3.drew := (Ext.refl [] W3).drew
        refine bodyPost_ret (results_tct Try.results15 _ _ (w.heap.size + 2) _ #[.slice (some ⟨sg, 0, none⟩) E.n sc, .slice (some ⟨tg, 0, none⟩) E.n tc, .slice wo E.W.length wc] _ _ _ _ rfl rfl (tri_set (hE4.at HB7.out (by simp)) _ _ _) rfl Try.underlying33 rfl (by kernel_rfl)) rfl ?_
        exact act_fin (hE4.at HB7.out (by simp)) (by omega) (H0.out.1.wide.trans (H3.out.trans hE4).wide) (H0.out.2.2.2.2.2.1.ext0 (H3.out.trans hE4)) (H0.out.2.2.2.2.2.2.1.ext0 (H3.out.trans hE4)) (.inl rfl) (.inl rfl) (.inl rfl) HQ.out
end Go.Proofs.Ytfojmjkcjdehaaa