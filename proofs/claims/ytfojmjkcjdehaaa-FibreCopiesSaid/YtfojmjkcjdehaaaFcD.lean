/- The law's act (printed by wip/mkFq.py). The law's same: a device shows the document's words (printed by wip/mkFs.py). The law's is: a fibre stands as the document's (printed by wip/mkFt.py). What holds between two calls of FibrePlays and FibreCopies (printed by wip/mkFu.py). -/
import Derived.Test.YtfojmjkcjdehaaaFcC
import Derived.Test.YtfojmjkcjdehaaaPnT
import Derived.Test.YtfojmjkcjdehaaaOr3
namespace Go.Proofs.Ytfojmjkcjdehaaa
open Go Go.RowKit Go.Shelf
attribute [local go_sem] Oper.semAt_some

set_option maxRecDepth 100000 in
set_option maxHeartbeats 8000000 in
theorem fb_act_step (what : Int) (xo : Option Addr) (xm xc : Nat) (f d lb sb N : Nat) (v u : Value) (L dn : List Tch) (D : Dv) (w : World) (hs : FS w N f d lb sb v u L dn D) (hok : FOk L dn D 900000) (hN : N ≤ w.heap.size) (hw : what = 0 ∨ what = 1) :
    Calls Try.prog 44 #[.pointer (some ⟨f, 0, none⟩), .pointer (some ⟨d, 0, none⟩), v, u, .agg #[.int .i64 what, .slice xo xm xc]] w (ActQ w N f d lb sb ((fstep L dn D).L, (fstep L dn D).dn, (fstep L dn D).D)) := by
  have HS := Lib.hid hs
  have HOK := Lib.hid hok
  obtain ⟨ao, cap, rfl, hA⟩ := hs.rf
  obtain ⟨sg, sc, tg, tc, wo, wc, rfl, _, _, _⟩ := hs.rd
  have h4 := hs.fd.four
  obtain ⟨n, hn⟩ : ∃ n, (dn ++ L).length = n := ⟨_, rfl⟩
  obtain ⟨m, hm⟩ : ∃ m, dn.length = m := ⟨_, rfl⟩
  rw [hn, hm]
  rw [hn, hm] at HS
  obtain ⟨nb, hnb⟩ : ∃ nb, w.heap.size = nb := ⟨_, rfl⟩
  rw [hnb] at h4
  have hac := AcB.start (w := w) [f, d, lb, sb] #[.slice ao n cap, .int .i64 m] #[.slice (some ⟨sg, 0, none⟩) D.n sc, .slice (some ⟨tg, 0, none⟩) D.n tc, .slice wo D.W.length wc] #[.int .i64 what, .slice xo xm xc]
  obtain ⟨W0, hw0⟩ : ∃ W0, (((((w.alloc (.cells #[.slice ao n cap, .int .i64 m] 96)).alloc (.cells #[.slice (some ⟨sg, 0, none⟩) D.n sc, .slice (some ⟨tg, 0, none⟩) D.n tc, .slice wo D.W.length wc] 33)).alloc (.cells #[.int .i64 what, .slice xo xm xc] 92)).alloc (.cells #[.slice none 0 0, .int .i64 0] 96)).alloc (.cells #[.slice none 0 0, .slice none 0 0, .slice none 0 0] 33)) = W0 := ⟨_, rfl⟩
  have hE0 : Ext [] w W0 := by rw [← hw0]; exact (((((Ext.refl [] w).alloc _).alloc _).alloc _).alloc _).alloc _
  rw [hw0, hnb] at hac
  have H0 := Lib.hid (And.intro hac (And.intro hE0 (And.intro h4 (And.intro hnb (show N ≤ nb by omega)))))
  have HNM := Lib.hid (And.intro hn hm)
  obtain ⟨k0, k1⟩ := pair' hac.b0
  obtain ⟨q0, q1, q2⟩ := three hac.b1
  obtain ⟨a0, a1⟩ := pair' hac.b2
  clear hac hE0 h4 hA hn hm hs hok
  have HSF := Lib.hid (fb_StepF N f d lb sb L dn D W0 (HS.out.fd.ext0 H0.out.2.1) (by have := HOK.out.len; rw [List.length_append] at this; omega))
  have HRF := Lib.hid (fun W (h1 : RFib W N (.agg #[.slice ao n cap, .int .i64 m]) L dn) (h2 : RefAt W (.agg #[.slice (some ⟨sg, 0, none⟩) D.n sc, .slice (some ⟨tg, 0, none⟩) D.n tc, .slice wo D.W.length wc]) D) => rf_fStep N _ _ L dn D W h1 h2 HOK.out.ok HOK.out.right (by have := HOK.out.len; omega))
  obtain ⟨r, hr⟩ : ∃ r, fstep L dn D = r := ⟨_, rfl⟩
  rw [hr] at HSF HRF ⊢
  clear hr
  have heq : ∀ w, (binOp .eql 82 (.agg #[.int .i64 r.t.kd, .int .i64 r.t.at', .int .u64 r.t.wd]) (.agg #[.int .i64 r.t.kd, .int .i64 r.t.at', .int .u64 r.t.wd])).run Try.prog w = .ok (.bool true) w := by
    intro w
    rw [eqTch]
    simp
  have heq2 : (r.e == r.e) = true := by simp
  have hc01 : (what == 0) = true ∨ (what == 0) = false ∧ (what == 1) = true := by rcases hw with rfl | rfl <;> simp
  clear hw
  rcases hc01 with hc0 | ⟨hc0, hc1⟩
  all_goals
    go_enter Try.func44, Try.ntmps44
    go_wp2_with fail
    try rw [hw0]
    clear hw0
    refine HSF.out.mono ?_
    rintro e w1 ⟨rfl, hP⟩
    obtain ⟨tb, htb⟩ : ∃ tb, w1.heap.size = tb := ⟨_, rfl⟩
    obtain ⟨W2, hw2⟩ : ∃ W2, w1.alloc (.cells #[.int .i64 r.t.kd, .int .i64 r.t.at', .int .u64 r.t.wd] 82) = W2 := ⟨_, rfl⟩
    have hE2 : Ext [] w1 W2 := by rw [← hw2]; exact (Ext.refl _ _).alloc _
    have hb2 : W2.heap[tb]? = some (.cells #[.int .i64 r.t.kd, .int .i64 r.t.at', .int .u64 r.t.wd] 82 (0, 0)) := by rw [← hw2, ← htb]; exact World.alloc_heap_new _ _
    have hA2 := (H0.out.1.ext1 hP.2 (fun q hq => .inl ⟨hq, H0.out.2.2.1 q hq⟩)).ext0 hE2
    have H2 := Lib.hid (And.intro hA2 (And.intro hb2 (And.intro (hP.1.ext0 hE2) (And.intro ((((HS.out.fd.ext0 H0.out.2.1).rf (HS.out.rf.ext0 H0.out.2.1) hP.2).ext0 hE2)) (And.intro ((((HS.out.fd.ext0 H0.out.2.1).rd (HS.out.rd.ext0 H0.out.2.1) hP.2).ext0 hE2)) (show nb + 5 ≤ tb by have := H0.out.1.lt; have := hP.2.size; omega))))))
    clear hE2 hb2 hA2 hP k0 k1 q0 q1 q2 a0 a1
    obtain ⟨k0, k1⟩ := pair' H2.out.1.b0
    obtain ⟨q0, q1, q2⟩ := three H2.out.1.b1
    go_wp2_with fail
    try rw [hw2]
    try rw [htb]
    clear hw2 htb
    refine (HRF.out W2 H2.out.2.2.2.1 H2.out.2.2.2.2.1).mono ?_
    rintro e w3 ⟨v3, u3, rfl, hE3, hR3, hD3⟩
    have hR3' := hR3
    obtain ⟨ao3, cap3, rfl, _⟩ := hR3'
    have hD3' := hD3
    obtain ⟨sg3, sc3, tg3, tc3, wo3, wc3, rfl, _, _, _⟩ := hD3'
    obtain ⟨n3, hn3⟩ : ∃ n3, (r.dn ++ r.L).length = n3 := ⟨_, rfl⟩
    obtain ⟨m3, hm3⟩ : ∃ m3, r.dn.length = m3 := ⟨_, rfl⟩
    rw [hn3, hm3] at hR3 ⊢
    clear hn3 hm3
    obtain ⟨ob, hob⟩ : ∃ ob, w3.heap.size = ob := ⟨_, rfl⟩
    obtain ⟨W4, hw4⟩ : ∃ W4, ((w3.alloc (.cells #[.slice ao3 n3 cap3, .int .i64 m3] 96)).alloc (.cells #[.slice (some ⟨sg3, 0, none⟩) r.D.n sc3, .slice (some ⟨tg3, 0, none⟩) r.D.n tc3, .slice wo3 r.D.W.length wc3] 33)).alloc (.cells #[.int .i64 r.t.kd, .int .i64 r.t.at', .int .u64 r.t.wd] 82) = W4 := ⟨_, rfl⟩
    go_upto_region 6 with fail
    try rw [hob]
    try simp only [Nat.add_assoc, Nat.reduceAdd]
    have hE4 : Ext [] w3 W4 := by rw [← hw4]; exact (((Ext.refl _ _).alloc _).alloc _).alloc _
    obtain ⟨hb5, hb6, hb7, _⟩ := al3_heap (w := w3) #[.slice ao3 n3 cap3, .int .i64 m3] #[.slice (some ⟨sg3, 0, none⟩) r.D.n sc3, .slice (some ⟨tg3, 0, none⟩) r.D.n tc3, .slice wo3 r.D.W.length wc3] #[.int .i64 r.t.kd, .int .i64 r.t.at', .int .u64 r.t.wd] 96 33 82
    rw [hw4, hob] at hb5 hb6 hb7
    have H4 := Lib.hid (And.intro (H2.out.1.ext0 (hE3.trans hE4)) (And.intro hb5 (And.intro hb6 (And.intro hb7 (And.intro ((hE3.trans hE4).at H2.out.2.1 (by simp)) (And.intro (FS.mk (H2.out.2.2.1.ext0 (hE3.trans hE4)) (hR3.ext0 hE4) (hD3.ext0 hE4)) (show nb + 5 ≤ ob by have := H2.out.1.lt; have := hE3.size; omega)))))))
    clear hE3 hE4 hb5 hb6 hb7 hR3 hD3 hw4 hob k0 k1 q0 q1 q2
    obtain ⟨c0, c1⟩ := pair' H4.out.2.1
    obtain ⟨c2, c3, c4⟩ := three H4.out.2.2.1
    obtain ⟨c5, c6, c7⟩ := three H4.out.2.2.2.1
    obtain ⟨c8, c9, c10⟩ := three H4.out.2.2.2.2.1
    have HK : Hid (∀ W', Ext [nb + 3, nb + 4] W4 W' → W'.cell? ⟨ob, 0, none⟩ = some (.slice ao3 n3 cap3) ∧ W'.cell? ⟨ob, 1, none⟩ = some (.int .i64 m3) ∧ W'.cell? ⟨ob + 1, 0, none⟩ = some (.slice (some ⟨sg3, 0, none⟩) r.D.n sc3) ∧ W'.cell? ⟨ob + 1, 1, none⟩ = some (.slice (some ⟨tg3, 0, none⟩) r.D.n tc3) ∧ W'.cell? ⟨ob + 1, 2, none⟩ = some (.slice wo3 r.D.W.length wc3) ∧ W'.cell? ⟨ob + 2, 0, none⟩ = some (.int .i64 r.t.kd) ∧ W'.cell? ⟨ob + 2, 1, none⟩ = some (.int .i64 r.t.at') ∧ W'.cell? ⟨ob + 2, 2, none⟩ = some (.int .u64 r.t.wd) ∧ W'.cell? ⟨tb, 0, none⟩ = some (.int .i64 r.t.kd) ∧ W'.cell? ⟨tb, 1, none⟩ = some (.int .i64 r.t.at') ∧ W'.cell? ⟨tb, 2, none⟩ = some (.int .u64 r.t.wd)) := by
      intro W' hE
      exact ⟨hE.cell c0 (by have := H4.out.2.2.2.2.2.2; have := H2.out.2.2.2.2.2; simp; omega), hE.cell c1 (by have := H4.out.2.2.2.2.2.2; have := H2.out.2.2.2.2.2; simp; omega), hE.cell c2 (by have := H4.out.2.2.2.2.2.2; have := H2.out.2.2.2.2.2; simp; omega), hE.cell c3 (by have := H4.out.2.2.2.2.2.2; have := H2.out.2.2.2.2.2; simp; omega), hE.cell c4 (by have := H4.out.2.2.2.2.2.2; have := H2.out.2.2.2.2.2; simp; omega), hE.cell c5 (by have := H4.out.2.2.2.2.2.2; have := H2.out.2.2.2.2.2; simp; omega), hE.cell c6 (by have := H4.out.2.2.2.2.2.2; have := H2.out.2.2.2.2.2; simp; omega), hE.cell c7 (by have := H4.out.2.2.2.2.2.2; have := H2.out.2.2.2.2.2; simp; omega), hE.cell c8 (by have := H4.out.2.2.2.2.2.2; have := H2.out.2.2.2.2.2; simp; omega), hE.cell c9 (by have := H4.out.2.2.2.2.2.2; have := H2.out.2.2.2.2.2; simp; omega), hE.cell c10 (by have := H4.out.2.2.2.2.2.2; have := H2.out.2.2.2.2.2; simp; omega)⟩
    refine wp_region_hd (S := Ext [nb + 3, nb + 4] W4) 12 (by kernel_rfl) (by kernel_rfl) (fun _ d _ _ _ h => by cases d <;> exact h) (Ext.refl _ _).drew ?_
    simp only [List.take_succ_cons, List.take_zero, List.drop_succ_cons, List.drop_zero]
    repeat (first
      | (refine wpHd_yes ?_ (by rfl) (fun w hSw => ?_) ?_
         rotate_left
         · (obtain ⟨r0, r1, r2, r3, r4, r5, r6, r7, r8, r9, r10⟩ := HK.out _ hSw; clear hSw; go_simp; first | exact ⟨rfl, rfl⟩ | exact rfl | exact fb_numQ _ _)
         simp only [Act.put, List.setIfInBounds_toArray, List.set_cons_zero, List.set_cons_succ]))
    refine wpHd_nil ?_
    obtain ⟨z0, z1⟩ := pair' H4.out.1.b3
    obtain ⟨z2, z3, z4⟩ := three H4.out.1.b4
    have f0 := free_of H4.out.1.b3 0
    have f1 := free_of H4.out.1.b3 1
    have f2 := free_of H4.out.1.b4 0
    have f3 := free_of H4.out.1.b4 1
    have f4 := free_of H4.out.1.b4 2
    iterate 4 (
      refine wpTl_go rfl (fun K hK => ?_)
      go_simp
      refine hK _ _ (by refine Ext.drew ?_; (repeat (refine Ext.setCell ?_ (.inl (by simp)) _)); exact Ext.refl _ _) ?_
      clear hK K
      try simp only [Act.put, List.setIfInBounds_toArray, List.set_cons_zero, List.set_cons_succ])
    refine wpTl_nil ?_
    go_wp2
    obtain ⟨W9, hW9⟩ : ∃ W9, World.drew (((((W4.setCell ⟨nb + 3, 0, none⟩ (.slice ao3 n3 cap3)).setCell ⟨nb + 3, 1, none⟩ (.int .i64 m3)).setCell ⟨nb + 4, 0, none⟩ (.slice (some ⟨sg3, 0, none⟩) r.D.n sc3)).setCell ⟨nb + 4, 1, none⟩ (.slice (some ⟨tg3, 0, none⟩) r.D.n tc3)).setCell ⟨nb + 4, 2, none⟩ (.slice wo3 r.D.W.length wc3)) = W9 := ⟨_, rfl⟩
    have hret := H4.out.1.ret (.slice ao3 n3 cap3) (.int .i64 m3) (.slice (some ⟨sg3, 0, none⟩) r.D.n sc3) (.slice (some ⟨tg3, 0, none⟩) r.D.n tc3) (.slice wo3 r.D.W.length wc3) W9 hW9
    rw [hW9]
    clear hW9
    refine bodyPost_ret (results_tcct Try.results44 _ _ (nb + 3) (nb + 4) _ _ #[.slice ao3 n3 cap3, .int .i64 m3] #[.slice (some ⟨sg3, 0, none⟩) r.D.n sc3, .slice (some ⟨tg3, 0, none⟩) r.D.n tc3, .slice wo3 r.D.W.length wc3] _ _ _ _ (.pointer (some ⟨f, 0, none⟩)) (.bool true) rfl rfl rfl rfl hret.1 hret.2.1 Try.underlying96 rfl (by kernel_rfl) Try.underlying33 rfl (by kernel_rfl)) rfl ?_
    exact ⟨f, _, _, rfl, hret.2.2.1, H4.out.1.fin H0.out.2.2.2.2 hret.2.2.2 H4.out.2.2.2.2.2.1, .inl rfl⟩
set_option maxRecDepth 100000 in
set_option maxHeartbeats 8000000 in
theorem fb_act_then (xo : Option Addr) (xm xc : Nat) (f d lb sb N : Nat) (v u : Value) (L dn : List Tch) (D : Dv) (w : World) (hs : FS w N f d lb sb v u L dn D) (hok : FOk L dn D 900000) (hN : N ≤ w.heap.size) (M : List Tch) (hxm : M.length = xm) (hM : TcAt w N xo M) (hml : M.length ≤ 20) :
    Calls Try.prog 44 #[.pointer (some ⟨f, 0, none⟩), .pointer (some ⟨d, 0, none⟩), v, u, .agg #[.int .i64 2, .slice xo xm xc]] w (ActQ w N f d lb sb ((if thenE L dn M = 0 then L ++ M else L), dn, D)) := by
  have HS := Lib.hid hs
  have HOK := Lib.hid hok
  obtain ⟨ao, cap, rfl, hA⟩ := hs.rf
  obtain ⟨sg, sc, tg, tc, wo, wc, rfl, _, _, _⟩ := hs.rd
  have h4 := hs.fd.four
  obtain ⟨n, hn⟩ : ∃ n, (dn ++ L).length = n := ⟨_, rfl⟩
  obtain ⟨m, hm⟩ : ∃ m, dn.length = m := ⟨_, rfl⟩
  rw [hn, hm]
  rw [hn, hm] at HS
  obtain ⟨nb, hnb⟩ : ∃ nb, w.heap.size = nb := ⟨_, rfl⟩
  rw [hnb] at h4
  have hac := AcB.start (w := w) [f, d, lb, sb] #[.slice ao n cap, .int .i64 m] #[.slice (some ⟨sg, 0, none⟩) D.n sc, .slice (some ⟨tg, 0, none⟩) D.n tc, .slice wo D.W.length wc] #[.int .i64 2, .slice xo xm xc]
  obtain ⟨W0, hw0⟩ : ∃ W0, (((((w.alloc (.cells #[.slice ao n cap, .int .i64 m] 96)).alloc (.cells #[.slice (some ⟨sg, 0, none⟩) D.n sc, .slice (some ⟨tg, 0, none⟩) D.n tc, .slice wo D.W.length wc] 33)).alloc (.cells #[.int .i64 2, .slice xo xm xc] 92)).alloc (.cells #[.slice none 0 0, .int .i64 0] 96)).alloc (.cells #[.slice none 0 0, .slice none 0 0, .slice none 0 0] 33)) = W0 := ⟨_, rfl⟩
  have hE0 : Ext [] w W0 := by rw [← hw0]; exact (((((Ext.refl [] w).alloc _).alloc _).alloc _).alloc _).alloc _
  rw [hw0, hnb] at hac
  have H0 := Lib.hid (And.intro hac (And.intro hE0 (And.intro h4 (And.intro hnb (show N ≤ nb by omega)))))
  have HNM := Lib.hid (And.intro hn hm)
  obtain ⟨k0, k1⟩ := pair' hac.b0
  obtain ⟨q0, q1, q2⟩ := three hac.b1
  obtain ⟨a0, a1⟩ := pair' hac.b2
  clear hac hE0 h4 hA hn hm hs hok
  have hlen := HOK.out.len
  rw [List.length_append] at hlen
  have HTH := Lib.hid (fb_Then f N L dn xo xc M W0 (HS.out.fd.fib.ext0 H0.out.2.1) (hM.ext0 H0.out.2.1) (by omega) (by omega) (by omega))
  have HRT := Lib.hid (fun W (h1 : RFib W N (.agg #[.slice ao n cap, .int .i64 m]) L dn) (h2 : TcAt W N xo M) (h3 : N ≤ W.heap.size) => rf_fThen N _ L dn xo xc M W h1 h2 (by have := HOK.out.len; omega) (by omega) h3)
  have HM := Lib.hid hM
  rw [hxm] at HTH HRT
  obtain ⟨te, hte⟩ : ∃ te, thenE L dn M = te := ⟨_, rfl⟩
  have heq : (te == te) = true := by simp
  have HTE := Lib.hid hte
  rw [hte] at HTH HRT ⊢
  obtain ⟨LT, hLT⟩ : ∃ LT, (if te = 0 then L ++ M else L) = LT := ⟨_, rfl⟩
  have HLT := Lib.hid hLT
  rw [hLT]
  simp only [hLT] at HRT
  clear hte hM hml hxm hlen hLT
  go_enter Try.func44, Try.ntmps44
  go_wp2_with fail
  try rw [hw0]
  clear hw0
  refine HTH.out.mono ?_
  rintro e w1 ⟨rfl, hP, hE1⟩
  have h1f : Ext [f, d, lb, sb] W0 w1 := hE1.sub (fun q hq => by simp at hq; simp [hq])
  have hfd0 := HS.out.fd.ext0 H0.out.2.1
  have hT1 := HM.out.ext0 H0.out.2.1
  have hfd1 : FD w1 N f d lb sb LT dn D := ⟨by unfold ThenP at hP; rw [HTE.out, HLT.out] at hP; exact hP, hfd0.dev.extF hE1 hfd0.fib, hfd0.ok, hfd0.hd, hfd0.hl, hfd0.hs⟩
  have H1 := Lib.hid (And.intro (H0.out.1.ext1 h1f (fun q hq => .inl ⟨hq, H0.out.2.2.1 q hq⟩)) (And.intro hfd1 (And.intro (hfd0.rf (HS.out.rf.ext0 H0.out.2.1) h1f) (And.intro (hfd0.rd (HS.out.rd.ext0 H0.out.2.1) h1f) (And.intro (hT1.ext h1f hfd0.noTc) (show N ≤ w1.heap.size by have := H0.out.2.2.2.2; have := H0.out.1.lt; have := h1f.size; omega))))))
  clear hP hE1 h1f hfd0 hT1 hfd1 k0 k1 q0 q1 q2 a0 a1
  obtain ⟨k0, k1⟩ := pair' H1.out.1.b0
  obtain ⟨q0, q1, q2⟩ := three H1.out.1.b1
  obtain ⟨a0, a1⟩ := pair' H1.out.1.b2
  go_wp2_with fail
  refine (HRT.out _ H1.out.2.2.1 H1.out.2.2.2.2.1 H1.out.2.2.2.2.2).mono ?_
  rintro e w3 ⟨v3, rfl, hE3, hR3⟩
  have hR3' := hR3
  obtain ⟨ao3, cap3, rfl, _⟩ := hR3'
  obtain ⟨n3, hn3⟩ : ∃ n3, (dn ++ LT).length = n3 := ⟨_, rfl⟩
  rw [hn3, HNM.out.2] at hR3 ⊢
  clear hn3
  obtain ⟨ob, hob⟩ : ∃ ob, w3.heap.size = ob := ⟨_, rfl⟩
  obtain ⟨W4, hw4⟩ : ∃ W4, w3.alloc (.cells #[.slice ao3 n3 cap3, .int .i64 m] 96) = W4 := ⟨_, rfl⟩
  go_upto_region 10 with fail
  try rw [hw4]
  try rw [hob]
  try rw [H0.out.2.2.2.1]
  try simp only [Nat.add_assoc, Nat.reduceAdd]
  have hE4 : Ext [] w3 W4 := by rw [← hw4]; exact (Ext.refl _ _).alloc _
  have hb5 : W4.heap[ob]? = some (.cells #[.slice ao3 n3 cap3, .int .i64 m] 96 (0, 0)) := by rw [← hw4, ← hob]; exact World.alloc_heap_new _ _
  have H4 := Lib.hid (And.intro (H1.out.1.ext0 (hE3.trans hE4)) (And.intro hb5 (And.intro (FS.mk (H1.out.2.1.ext0 (hE3.trans hE4)) (hR3.ext0 hE4) (H1.out.2.2.2.1.ext0 (hE3.trans hE4))) (show nb + 5 ≤ ob by have := H1.out.1.lt; have := hE3.size; omega))))
  clear hE3 hE4 hb5 hR3 hw4 hob k0 k1 q0 q1 q2 a0 a1
  obtain ⟨c0, c1⟩ := pair' H4.out.2.1
  obtain ⟨c2, c3, c4⟩ := three H4.out.1.b1
  have HK : Hid (∀ W', Ext [nb + 3, nb + 4] W4 W' → W'.cell? ⟨ob, 0, none⟩ = some (.slice ao3 n3 cap3) ∧ W'.cell? ⟨ob, 1, none⟩ = some (.int .i64 m) ∧ W'.cell? ⟨nb + 1, 0, none⟩ = some (.slice (some ⟨sg, 0, none⟩) D.n sc) ∧ W'.cell? ⟨nb + 1, 1, none⟩ = some (.slice (some ⟨tg, 0, none⟩) D.n tc) ∧ W'.cell? ⟨nb + 1, 2, none⟩ = some (.slice wo D.W.length wc)) := by
    intro W' hE
    exact ⟨hE.cell c0 (by have := H4.out.2.2.2; simp; omega), hE.cell c1 (by have := H4.out.2.2.2; simp; omega), hE.cell c2 (by simp), hE.cell c3 (by simp), hE.cell c4 (by simp)⟩
  refine wp_region_hd (S := Ext [nb + 3, nb + 4] W4) 7 (by kernel_rfl) (by kernel_rfl) (fun _ d _ _ _ h => by cases d <;> exact h) (Ext.refl _ _).drew ?_
  simp only [List.take_succ_cons, List.take_zero, List.drop_succ_cons, List.drop_zero]
  repeat (first
    | (refine wpHd_yes ?_ (by rfl) (fun w hSw => ?_) ?_
       rotate_left
       · (obtain ⟨r0, r1, r2, r3, r4⟩ := HK.out _ hSw; clear hSw; go_simp; first | exact ⟨rfl, rfl⟩ | exact rfl | exact fb_numQ _ _)
       simp only [Act.put, List.setIfInBounds_toArray, List.set_cons_zero, List.set_cons_succ]))
  refine wpHd_nil ?_
  obtain ⟨z0, z1⟩ := pair' H4.out.1.b3
  obtain ⟨z2, z3, z4⟩ := three H4.out.1.b4
  have f0 := free_of H4.out.1.b3 0
  have f1 := free_of H4.out.1.b3 1
  have f2 := free_of H4.out.1.b4 0
  have f3 := free_of H4.out.1.b4 1
  have f4 := free_of H4.out.1.b4 2
  iterate 4 (
    refine wpTl_go rfl (fun K hK => ?_)
    go_simp
    refine hK _ _ (by refine Ext.drew ?_; (repeat (refine Ext.setCell ?_ (.inl (by simp)) _)); exact Ext.refl _ _) ?_
    clear hK K
    try simp only [Act.put, List.setIfInBounds_toArray, List.set_cons_zero, List.set_cons_succ])
  refine wpTl_nil ?_
  go_wp2
  obtain ⟨W9, hW9⟩ : ∃ W9, World.drew (((((W4.setCell ⟨nb + 3, 0, none⟩ (.slice ao3 n3 cap3)).setCell ⟨nb + 3, 1, none⟩ (.int .i64 m)).setCell ⟨nb + 4, 0, none⟩ (.slice (some ⟨sg, 0, none⟩) D.n sc)).setCell ⟨nb + 4, 1, none⟩ (.slice (some ⟨tg, 0, none⟩) D.n tc)).setCell ⟨nb + 4, 2, none⟩ (.slice wo D.W.length wc)) = W9 := ⟨_, rfl⟩
  have hret := H4.out.1.ret (.slice ao3 n3 cap3) (.int .i64 m) (.slice (some ⟨sg, 0, none⟩) D.n sc) (.slice (some ⟨tg, 0, none⟩) D.n tc) (.slice wo D.W.length wc) W9 hW9
  rw [hW9]
  clear hW9
  refine bodyPost_ret (results_tcct Try.results44 _ _ (nb + 3) (nb + 4) _ _ #[.slice ao3 n3 cap3, .int .i64 m] #[.slice (some ⟨sg, 0, none⟩) D.n sc, .slice (some ⟨tg, 0, none⟩) D.n tc, .slice wo D.W.length wc] _ _ _ _ (.pointer (some ⟨f, 0, none⟩)) (.bool true) rfl rfl rfl rfl hret.1 hret.2.1 Try.underlying96 rfl (by kernel_rfl) Try.underlying33 rfl (by kernel_rfl)) rfl ?_
  exact ⟨f, _, _, rfl, hret.2.2.1, H4.out.1.fin H0.out.2.2.2.2 hret.2.2.2 H4.out.2.2.1, .inl rfl⟩
set_option maxRecDepth 100000 in
set_option maxHeartbeats 8000000 in
theorem fb_act_copy (what : Int) (xo : Option Addr) (xm xc : Nat) (f d lb sb N : Nat) (v u : Value) (L dn : List Tch) (D : Dv) (w : World) (hs : FS w N f d lb sb v u L dn D) (hok : FOk L dn D 900000) (hN : N ≤ w.heap.size) (hw0 : what ≠ 0) (hw1 : what ≠ 1) (hw2 : what ≠ 2) :
    Calls Try.prog 44 #[.pointer (some ⟨f, 0, none⟩), .pointer (some ⟨d, 0, none⟩), v, u, .agg #[.int .i64 what, .slice xo xm xc]] w (ActQ w N f d lb sb (L, dn, D)) := by
  have HS := Lib.hid hs
  have HOK := Lib.hid hok
  obtain ⟨ao, cap, rfl, hA⟩ := hs.rf
  obtain ⟨sg, sc, tg, tc, wo, wc, rfl, _, _, _⟩ := hs.rd
  have h4 := hs.fd.four
  obtain ⟨n, hn⟩ : ∃ n, (dn ++ L).length = n := ⟨_, rfl⟩
  obtain ⟨m, hm⟩ : ∃ m, dn.length = m := ⟨_, rfl⟩
  rw [hn, hm]
  rw [hn, hm] at HS
  obtain ⟨nb, hnb⟩ : ∃ nb, w.heap.size = nb := ⟨_, rfl⟩
  rw [hnb] at h4
  have hac := AcB.start (w := w) [f, d, lb, sb] #[.slice ao n cap, .int .i64 m] #[.slice (some ⟨sg, 0, none⟩) D.n sc, .slice (some ⟨tg, 0, none⟩) D.n tc, .slice wo D.W.length wc] #[.int .i64 what, .slice xo xm xc]
  obtain ⟨W0, hww⟩ : ∃ W0, (((((w.alloc (.cells #[.slice ao n cap, .int .i64 m] 96)).alloc (.cells #[.slice (some ⟨sg, 0, none⟩) D.n sc, .slice (some ⟨tg, 0, none⟩) D.n tc, .slice wo D.W.length wc] 33)).alloc (.cells #[.int .i64 what, .slice xo xm xc] 92)).alloc (.cells #[.slice none 0 0, .int .i64 0] 96)).alloc (.cells #[.slice none 0 0, .slice none 0 0, .slice none 0 0] 33)) = W0 := ⟨_, rfl⟩
  have hE0 : Ext [] w W0 := by rw [← hww]; exact (((((Ext.refl [] w).alloc _).alloc _).alloc _).alloc _).alloc _
  rw [hww, hnb] at hac
  have H0 := Lib.hid (And.intro hac (And.intro hE0 (And.intro h4 (And.intro hnb (show N ≤ nb by omega)))))
  have HNM := Lib.hid (And.intro hn hm)
  obtain ⟨k0, k1⟩ := pair' hac.b0
  obtain ⟨q0, q1, q2⟩ := three hac.b1
  obtain ⟨a0, a1⟩ := pair' hac.b2
  clear hac hE0 h4 hA hn hm hs hok
  have hc0 : (what == 0) = false := by simpa using hw0
  have hc1 : (what == 1) = false := by simpa using hw1
  have hc2 : (what == 2) = false := by simpa using hw2
  have hlen := HOK.out.len
  rw [List.length_append] at hlen
  have HCP := Lib.hid (fun W (hE : Ext [] W0 W) => fb_Copy f N L dn W ((HS.out.fd.fib.ext0 H0.out.2.1).ext0 hE) (by omega) (by omega))
  clear hw0 hw1 hw2 hlen
  go_enter Try.func44, Try.ntmps44
  go_upto_region 11 with fail
  try rw [hww]
  try rw [hnb]
  try simp only [Nat.add_assoc, Nat.reduceAdd]
  clear hww hc0 hc1 hc2
  refine wp_region_p (hds [0, 2, 3] (tls [1, 4, 5, 6, 7] .done)) (Ext [nb + 3, nb + 4] W0) (by kernel_rfl) (by kernel_rfl) (fun _ d _ _ _ h => by cases d <;> exact h) (Ext.refl _ _).drew ?_
  repeat (first
    | (refine wpPl_hd ?_ rfl (by rfl) (fun w hSw => ?_) ?_
       rotate_left
       · (have r0 := hSw.cell k0 (by simp); have r1 := hSw.cell k1 (by simp); have r2 := hSw.cell q0 (by simp); have r3 := hSw.cell q1 (by simp); have r4 := hSw.cell q2 (by simp); clear hSw; go_simp; first | exact ⟨rfl, rfl⟩ | exact rfl)
       simp only [Act.put, List.setIfInBounds_toArray, List.set_cons_zero, List.set_cons_succ]))
  refine wpPl_tl rfl (by rfl) (fun K hK => ?_)
  go_simp
  go_at_call 45
  refine (HCP.out _ (Ext.refl _ _).drew).mono ?_
  rintro e w1 ⟨f', rfl, hF1, hE1, hf1⟩
  have hX1 : Ext [] W0 w1 := (Ext.refl [] W0).drew.trans hE1
  have hfd := (HS.out.fd.ext0 H0.out.2.1).ext0 hX1
  have H1 := Lib.hid (And.intro (H0.out.1.ext0 hX1) (And.intro (FS.mk (FD.mk hF1 hfd.dev hfd.ok hfd.hd hfd.hl hfd.hs) ((HS.out.rf.ext0 H0.out.2.1).ext0 hX1) ((HS.out.rd.ext0 H0.out.2.1).ext0 hX1)) (And.intro hX1 (show w.heap.size ≤ f' by have := H0.out.2.1.size; have : W0.heap.size ≤ f' := hf1; omega))))
  refine hK _ _ (fun _ => hX1.wide) ?_
  clear hK K hE1 hX1 hF1 hf1 hfd k0 k1 q0 q1 q2 a0 a1
  try simp only [Act.put, List.setIfInBounds_toArray, List.set_cons_zero, List.set_cons_succ]
  obtain ⟨z0, z1⟩ := pair' H1.out.1.b3
  obtain ⟨z2, z3, z4⟩ := three H1.out.1.b4
  have f0 := free_of H1.out.1.b3 0
  have f1 := free_of H1.out.1.b3 1
  have f2 := free_of H1.out.1.b4 0
  have f3 := free_of H1.out.1.b4 1
  have f4 := free_of H1.out.1.b4 2
  iterate 3 (
    refine wpPl_tl rfl (by rfl) (fun K hK => ?_)
    go_simp
    refine hK _ _ (fun _ => by (repeat (refine Ext.setCell ?_ (.inl (by simp)) _)); exact H1.out.2.2.1.wide) ?_
    clear hK K
    try simp only [Act.put, List.setIfInBounds_toArray, List.set_cons_zero, List.set_cons_succ])
  refine wpPl_last rfl (by rfl) ?_
  go_simp
  go_wp2
  obtain ⟨W9, hW9⟩ : ∃ W9, (((((w1.setCell ⟨nb + 3, 0, none⟩ (.slice ao n cap)).setCell ⟨nb + 3, 1, none⟩ (.int .i64 m)).setCell ⟨nb + 4, 0, none⟩ (.slice (some ⟨sg, 0, none⟩) D.n sc)).setCell ⟨nb + 4, 1, none⟩ (.slice (some ⟨tg, 0, none⟩) D.n tc)).setCell ⟨nb + 4, 2, none⟩ (.slice wo D.W.length wc)) = W9 := ⟨_, rfl⟩
  have hret := H1.out.1.ret' (.slice ao n cap) (.int .i64 m) (.slice (some ⟨sg, 0, none⟩) D.n sc) (.slice (some ⟨tg, 0, none⟩) D.n tc) (.slice wo D.W.length wc) W9 hW9
  rw [hW9]
  clear hW9
  refine bodyPost_ret (results_tcct Try.results44 _ _ (nb + 3) (nb + 4) _ _ #[.slice ao n cap, .int .i64 m] #[.slice (some ⟨sg, 0, none⟩) D.n sc, .slice (some ⟨tg, 0, none⟩) D.n tc, .slice wo D.W.length wc] _ _ _ _ (.pointer (some ⟨f', 0, none⟩)) (.bool true) rfl rfl rfl rfl hret.1 hret.2.1 Try.underlying96 rfl (by kernel_rfl) Try.underlying33 rfl (by kernel_rfl)) rfl ?_
  exact ⟨f', _, _, rfl, hret.2.2.1, H1.out.1.fin H0.out.2.2.2.2 hret.2.2.2 H1.out.2.1, .inr H1.out.2.2.2⟩
/-- a call by both -/
theorem fb_act (x : FAct) (f d lb sb N : Nat) (v u : Value) (L dn : List Tch) (D : Dv) (w : World) (hs : FS w N f d lb sb v u L dn D) (hok : FOk L dn D 900000) (hN : N ≤ w.heap.size) (hM : TcAt w N x.bo x.M) (hml : x.M.length ≤ 20) :
    Calls Try.prog 44 #[.pointer (some ⟨f, 0, none⟩), .pointer (some ⟨d, 0, none⟩), v, u, .agg #[.int .i64 x.what, .slice x.bo x.M.length x.cap]] w (ActQ w N f d lb sb (actF x L dn D)) := by
  by_cases h0 : x.what = 0 ∨ x.what = 1
  · rw [actF_step h0]
    exact fb_act_step x.what x.bo x.M.length x.cap f d lb sb N v u L dn D w hs hok hN h0
  · by_cases h2 : x.what = 2
    · rw [actF_then h2, h2]
      exact fb_act_then x.bo x.M.length x.cap f d lb sb N v u L dn D w hs hok hN x.M rfl hM hml
    · have h0' : x.what ≠ 0 := fun h => h0 (.inl h)
      have h1' : x.what ≠ 1 := fun h => h0 (.inr h)
      rw [actF_copy h0' h1' h2]
      exact fb_act_copy x.what x.bo x.M.length x.cap f d lb sb N v u L dn D w hs hok hN h0' h1' h2
end Go.Proofs.Ytfojmjkcjdehaaa
namespace Go.Proofs.Ytfojmjkcjdehaaa
open Go Go.RowKit Go.Shelf
attribute [local go_sem] Oper.semAt_some

set_option maxRecDepth 100000 in
set_option maxHeartbeats 4000000 in
theorem fb_same (d lb sb : Nat) (D : Dv) (v : Value) (w : World) (hD : DevAt w d lb sb D) (hn : DvOk D) (hR : RefAt w v D) :
    Calls Try.prog 50 #[.pointer (some ⟨d, 0, none⟩), v] w fun e w' => e = .returned (.bool true) ∧ Ext [] w w' := by
  have hRR := hR
  obtain ⟨sg, sc, tg, tc, wo, wk, rfl, hS, _, _⟩ := hRR
  obtain ⟨w1, hw1⟩ : ∃ w1, w.alloc (.cells #[.slice (some ⟨sg, 0, none⟩) D.n sc, .slice (some ⟨tg, 0, none⟩) D.n tc, .slice wo D.W.length wk] 33) = w1 := ⟨_, rfl⟩
  have hE1 : Ext [] w w1 := by rw [← hw1]; exact (Ext.refl [] w).alloc _
  obtain ⟨nb, hnb⟩ : ∃ nb, w.heap.size = nb := ⟨_, rfl⟩
  have hb3 : w1.heap[nb]? = some (.cells #[.slice (some ⟨sg, 0, none⟩) D.n sc, .slice (some ⟨tg, 0, none⟩) D.n tc, .slice wo D.W.length wk] 33 (0, 0)) := by rw [← hw1, ← hnb]; exact World.alloc_heap_new _ _
  obtain ⟨k0, k1, k2⟩ := three hb3
  have H1 := Lib.hid (And.intro hE1 (And.intro hb3 (And.intro (hD.ext0 hE1) (And.intro (hR.ext0 hE1) (hS.ext hE1 (NoT.nil _ _))))))
  have HN := Lib.hid hn
  have HSD := Lib.hid (fun W (hE : Ext [] w1 W) => pm_State d lb sb D W (H1.out.2.2.1.ext0 hE) hn)
  have HSR := Lib.hid (fun W (hE : Ext [] w1 W) => rf_State _ D W (H1.out.2.2.2.1.ext0 hE) hn)
  have hne : ∀ w, (binOp .neq 49 (mediaV D) (mediaV D)).run Try.prog w = .ok (.bool false) w := by
    intro w
    unfold mediaV
    rw [neMediaB]
    simp
  obtain ⟨md, hmd⟩ : ∃ md, mediaV D = .agg md := ⟨_, rfl⟩
  rw [hmd] at HSD HSR hne
  clear hE1 hb3 hD hR hS hn hmd
  go_enter Try.func50, Try.ntmps50
  go_upto_region 1 with fail
  try rw [hw1]
  try rw [hnb]
  clear hw1
  refine wp_region_p (hds [0, 2] (tls [1, 3, 4] .done)) (Ext [] w1) (by kernel_rfl) (by kernel_rfl) (fun _ d _ _ _ h => by cases d <;> exact h) (Ext.refl _ _).drew ?_
  repeat (first
    | (refine wpPl_hd ?_ rfl (by rfl) (fun w hSw => ?_) ?_
       rotate_left
       · (have q0 := hSw.cell k0 (by simp); have q1 := hSw.cell k1 (by simp); have q2 := hSw.cell k2 (by simp); clear hSw; go_simp; first | exact ⟨rfl, rfl⟩ | exact rfl)
       simp only [Act.put, List.setIfInBounds_toArray, List.set_cons_zero, List.set_cons_succ]))
  refine wpPl_tl rfl (by rfl) (fun K hK => ?_)
  go_simp
  go_at_call 24
  refine (HSD.out _ (Ext.refl _ _).drew).mono ?_
  rintro e w2 ⟨rfl, hE2⟩
  have hX2 : Ext [] w1 w2 := (Ext.refl [] w1).drew.trans hE2
  refine hK _ _ (fun _ => hX2) ?_
  clear hK K hE2
  try simp only [Act.put, List.setIfInBounds_toArray, List.set_cons_zero, List.set_cons_succ]
  refine wpPl_tl rfl (by rfl) (fun K hK => ?_)
  go_simp
  go_at_call 83
  refine (HSR.out _ hX2).mono ?_
  rintro e w3 ⟨rfl, hE3⟩
  have hX3 : Ext [] w1 w3 := hX2.trans hE3
  refine hK _ _ (fun _ => hX3) ?_
  clear hK K hE3 hX2
  try simp only [Act.put, List.setIfInBounds_toArray, List.set_cons_zero, List.set_cons_succ]
  refine wpPl_last rfl (by rfl) ?_
  go_simp
  have HC := Lib.hid hX3
  have hn1 := HN.out.n1
  clear hX3 HSD HSR hne k0 k1 k2
  obtain ⟨k0, k1, k2⟩ := three (HC.out.at H1.out.2.1 (by simp))
  go_wp2
  go_loopg [5] (8 * D.n) (fun cnt i wr => ∃ j : Nat, i = .int .i64 j ∧ j + cnt = 8 * D.n ∧ Ext [] w1 wr)
  case atStart => exact ⟨0, rfl, by omega, HC.out⟩
  case round =>
    obtain ⟨j, rfl, hj, hE⟩ := hrel
    have HE := Lib.hid hE
    clear hE k0 k1 k2
    have hjm : (j : Int) ≤ 8192 := by omega
    obtain ⟨k0, k1, k2⟩ := three (HE.out.at H1.out.2.1 (by simp))
    by_cases hlt : j < 8 * D.n
    · have hi0 : (0 : Int) ≤ (j : Int) := by omega
      have hi1 : (j : Int) < 8 * (D.n : Int) := by omega
      have hq : j / 8 < D.n := by omega
      have hr : j % 8 < 8 := by omega
      have HLD := Lib.hid (fun W (hE : Ext [] w1 W) => pm_Load d lb sb (j : Int) D W (H1.out.2.2.1.ext0 hE) HN.out)
      rw [Dv.load_nat hlt] at HLD
      have HT : Hid (∀ W, Ext [] w1 W → W.cell? ⟨sg, j / 8 * 8 + j % 8, none⟩ = some (.int .u64 (D.L j))) := by
        intro W hE
        have h1 := (H1.out.2.2.2.2.ext hE (NoT.nil _ _)).word hq hr
        rw [show 8 * (j / 8) + j % 8 = j from by omega] at h1
        exact h1
      have e1 : (j : Int) / 8 = ((j / 8 : Nat) : Int) := by omega
      have e2 : (j : Int) % 8 = ((j % 8 : Nat) : Int) := by omega
      have z0 : (0 : Int) ≤ ((j / 8 : Nat) : Int) := by omega
      have z1 : ((j / 8 : Nat) : Int) < (D.n : Int) := by omega
      have d0 : (0 : Int) ≤ ((j % 8 : Nat) : Int) := by omega
      have d1 : ((j % 8 : Nat) : Int) < 8 := by omega
      have hx1 : (D.L j != D.L j) = false := by simp
      have HJ := Lib.hid (And.intro hj hlt)
      clear hj hlt hq hr
      generalize D.L j = xl at *
      generalize j / 8 = q at *
      generalize j % 8 = r at *
      go_wp2_with fail
      refine (HLD.out _ HE.out).mono ?_
      rintro e w4 ⟨rfl, hE4⟩
      have H4 := Lib.hid (HE.out.trans hE4)
      clear hE4 k0 k1 k2
      obtain ⟨k0, k1, k2⟩ := three (H4.out.at H1.out.2.1 (by simp))
      have t1 := HT.out _ H4.out
      go_wp2_with (go_at_call 36; refine (fb_num _ _).mono ?_; rintro e w' ⟨rfl, rfl⟩)
      go_roundg (8 * D.n - (j + 1))
      case measure => have := HJ.out; omega
      case rel => exact ⟨j + 1, by go_num, by have := HJ.out; omega, H4.out⟩
    · have hd : ¬ ((j : Int) < 8 * (D.n : Int)) := by omega
      clear hj hlt
      go_wp2
      go_ret
      exact ⟨rfl, H1.out.1.trans HE.out⟩
end Go.Proofs.Ytfojmjkcjdehaaa
namespace Go.Proofs.Ytfojmjkcjdehaaa
open Go Go.RowKit Go.Shelf
attribute [local go_sem] Oper.semAt_some

theorem eqSeqT (g : Nat) (lb : Array Value) (w : World) : (binOp .eql 101 (.func (.func g) #[] lb) .nilFunc).run Try.prog w = .ok (.bool false) w := by
  kernel_rfl
theorem getD_app (A B : List Tch) {i : Nat} (h : i < A.length) : (A ++ B).getD i tch0 = A.getD i tch0 := by
  rw [List.getD_eq_getElem?_getD, List.getElem?_append_left h, ← List.getD_eq_getElem?_getD]
theorem eqTch_same (t : Tch) (w : World) : (binOp .eql 82 (.agg #[.int .i64 t.kd, .int .i64 t.at', .int .u64 t.wd]) (.agg #[.int .i64 t.kd, .int .i64 t.at', .int .u64 t.wd])).run Try.prog w = .ok (.bool true) w := by
  rw [eqTch]
  simp
theorem neTch_same (t : Tch) (w : World) : (binOp .neq 82 (.agg #[.int .i64 t.kd, .int .i64 t.at', .int .u64 t.wd]) (.agg #[.int .i64 t.kd, .int .i64 t.at', .int .u64 t.wd])).run Try.prog w = .ok (.bool false) w := by
  rw [neTch]
  simp
theorem wrap_succ {q m : Nat} (h : q < m) (hm : m ≤ 1000000) : wrap64 ((q : Int) + 1) = (q : Int) + 1 ∧ IntKind.i64.wrap ((q : Int) + 1) = (q : Int) + 1 := by
  refine ⟨IntWalk.wrap64_in _ (by omega), ?_⟩
  rw [IntKind.wrap_i64]
  omega
theorem wrap_nat {q : Nat} (hm : q ≤ 1000000) : IntKind.i64.wrap (q : Int) = (q : Int) := by
  rw [IntKind.wrap_i64]
  omega
theorem less_facts {q m n : Nat} (h : q < m) (hn : q < n) : decide (m ≤ q) = false ∧ ¬ ((m : Int) ≤ (q : Int)) ∧ (0 : Int) ≤ (q : Int) ∧ (q : Int) < (n : Int) := by
  refine ⟨by simp; omega, by omega, by omega, by omega⟩
theorem cell_block {w : World} {g : Nat} {cs : Array Value} {e : TypeId} {f : Nat × Nat} (h : w.heap[g]? = some (.cells cs e f)) (j : Nat) : w.cell? ⟨g, j, none⟩ = cs[j]? := by
  simp [World.cell?, h]
/-- what Next tells -/
def nextT : List Tch → Tch × Bool
  | [] => (tch0, false)
  | t :: _ => (t, true)
theorem fb_NextF (f N : Nat) (L dn : List Tch) (w : World) (h : FibAt w N f L dn) :
    Calls Try.prog 49 #[.pointer (some ⟨f, 0, none⟩)] w fun e w' => e = .returned (.tuple #[.agg #[.int .i64 (nextT L).1.kd, .int .i64 (nextT L).1.at', .int .u64 (nextT L).1.wd], .bool (nextT L).2]) ∧ Ext [] w w' := by
  cases L with
  | nil => exact fb_Next_none _ w (fb_Left f N [] dn _ (h.ext0 ((Ext.refl _ _).alloc _)))
  | cons t r => exact fb_Next f N t r dn w h

set_option maxRecDepth 100000 in
set_option maxHeartbeats 4000000 in
theorem fb_is (f N : Nat) (L dn : List Tch) (v : Value) (w : World) (hF : FibAt w N f L dn) (hv : RFib w N v L dn) (hl : (dn ++ L).length ≤ 1000000) (hN : N ≤ w.heap.size) :
    Calls Try.prog 48 #[.pointer (some ⟨f, 0, none⟩), v] w fun e w' => e = .returned (.bool true) ∧ Ext [] w w' := by
  obtain ⟨ao, cap, rfl, hA⟩ := hv
  obtain ⟨A, hAA⟩ : ∃ A, dn ++ L = A := ⟨_, rfl⟩
  obtain ⟨n, hnn⟩ : ∃ n, A.length = n := ⟨_, rfl⟩
  obtain ⟨m, hmm⟩ : ∃ m, dn.length = m := ⟨_, rfl⟩
  rw [hAA] at hA hl ⊢
  rw [hnn] at hl ⊢
  rw [hmm]
  obtain ⟨nb, hnb⟩ : ∃ nb, w.heap.size = nb := ⟨_, rfl⟩
  obtain ⟨w1, hw1⟩ : ∃ w1, ((w.alloc (.cells #[.slice ao n cap, .int .i64 m] 96)).alloc (.cells #[.bool false] 4)).alloc (.cells #[.int .i64 0] 3) = w1 := ⟨_, rfl⟩
  have hE1 : Ext [] w w1 := by rw [← hw1]; exact (((Ext.refl [] w).alloc _).alloc _).alloc _
  obtain ⟨hb0, hb1, hb2, hs1⟩ := al3_heap (w := w) #[.slice ao n cap, .int .i64 m] #[.bool false] #[.int .i64 0] 96 4 3
  rw [hw1, hnb] at hb0 hb1 hb2 hs1
  have hml : m + L.length = n := by rw [← hnn, ← hmm, ← hAA, List.length_append]
  have H1 := Lib.hid (And.intro hE1 (And.intro hb0 (And.intro hb1 (And.intro hb2 (And.intro hs1 (And.intro (hF.ext0 hE1) (And.intro (hA.ext0 hE1) (And.intro hnb hN))))))))
  have HA := Lib.hid (And.intro hAA (And.intro hnn (And.intro hmm (And.intro hl (And.intro hml (show m ≤ 1000000 by omega))))))
  have HDN := Lib.hid (fun W (hE : Ext [] w1 W) => fb_Done f N L dn W (H1.out.2.2.2.2.2.1.ext0 hE))
  rw [hmm] at HDN
  have hsame := setCell_same (o := 0) (v := .int .i64 0) hb2 rfl
  have hk5 := cell_of (j := 0) (v := .int .i64 0) hb2 rfl
  have hf5 := free_of hb2 0
  clear hE1 hb0 hb1 hb2 hs1 hF hA hAA hnn hmm hl hml hN
  refine (callsIn_wide (n := 0)).1 (callsIn_of_wp_marks Try.func48 rfl trivial ?_ rfl)
  simp only [Try.ntmps48, List.size_toArray, List.length_cons, List.length_nil, Nat.reduceAdd, Nat.reduceSub, Array.replicate_succ, Array.replicate_zero, List.push_toArray, List.append_toArray, List.nil_append, List.cons_append]
  refine wpIn_wide.2 (wp_mono (Q := NoPanic (bodyPostM Fence.wide 0 Try.prog Try.f48 fun e w' => e = .returned (.bool true) ∧ Ext [] w w')) ?_ NoPanic.out)
  go_wp2_with fail
  try rw [hw1]
  try rw [hnb]
  try simp only [Nat.add_assoc, Nat.reduceAdd]
  clear hw1 hsame hk5 hf5
  refine (HDN.out _ (Ext.refl _ _)).mono ?_
  rintro e w2 ⟨bw1, bo1, bc1, rfl, hE2, _, _⟩
  have heq := eqSeqT 98 #[.pointer (some ⟨bw1, 0, none⟩)] w2
  have H2 := Lib.hid hE2
  clear hE2
  go_wp2_with fail
  refine (HDN.out _ H2.out).mono ?_
  rintro e w3 ⟨bw, bo, bcap, rfl, hE3, hKB, hbw⟩
  have hX3 := H2.out.trans hE3
  have H3 := Lib.hid (And.intro hX3 (And.intro (hX3.at H1.out.2.2.2.1 (by simp)) (And.intro hKB (show nb + 2 < bw by have := H2.out.size; have := H1.out.2.2.2.2.1; omega))))
  clear hE3 hKB hbw hX3 heq HDN
  have HAW : Hid (∀ W, Ext [nb + 2] w3 W → TcAt W N ao A ∧ W.heap[nb]? = some (.cells #[.slice ao n cap, .int .i64 m] 96 (0, 0)) ∧ W.heap[nb + 1]? = some (.cells #[.bool false] 4 (0, 0)) ∧ FibAt W N f L dn) := by
    intro W hE
    have hno : NoTc w3 N [nb + 2] := fun q hq => by
      simp at hq
      subst hq
      exact .inr ⟨by have := H1.out.2.2.2.2.2.2.2; omega, fun cur hb => by rw [H3.out.2.1] at hb; simp at hb⟩
    refine ⟨(H1.out.2.2.2.2.2.2.1.ext0 H3.out.1).ext hE hno, hE.at (H3.out.1.at H1.out.2.1 (by simp)) (by simp), hE.at (H3.out.1.at H1.out.2.2.1 (by simp)) (by simp), ?_⟩
    refine (H1.out.2.2.2.2.2.1.ext0 H3.out.1).ext hE ?_ hno
    obtain ⟨_, _, _, _, _, hb, _⟩ := H1.out.2.2.2.2.2.1.ext0 H3.out.1
    intro hm
    simp at hm
    rw [hm, H3.out.2.1] at hb
    simp at hb
  go_wp2
  refine wpIn_wide.1 (wp_range (gf := 98) (lb := #[.pointer (some ⟨bw, 0, none⟩)]) rfl (fun args w => enters_of Try.func98 (by kernel_rfl) rfl args w)
    (done_seq bw N bo bcap dn (by rw [HA.out.2.2.1]; exact HA.out.2.2.2.2.2)) (fun pre x h => by obtain ⟨k, _, _, rfl⟩ := okC_last h; rfl) [nb + 2]
    (fun mm pre W => mm = [nb + 2] ∧ Ext [nb + 2] w3 W ∧ W.heap[nb + 2]? = some (.cells #[.int .i64 pre.length] 3 (0, 0)))
    (fun _ _ => False) ?_ ?_ ?_ ?_ ?_ ?_ ?_ ?_)
  · exact fun mm pre => (Steady.const _ _).and ((Steady.ext (Nat.le_refl _)).and (Steady.block (.inr rfl)))
  · exact fun c => Steady.const _ _
  · rintro mm pre W ⟨_, hE, _⟩
    have hk := H3.out.2.2.1
    have hno : NoTc w3 N [nb + 2] := fun q hq => by
      simp at hq
      subst hq
      exact .inr ⟨by have := H1.out.2.2.2.2.2.2.2; omega, fun cur hb => by rw [H3.out.2.1] at hb; simp at hb⟩
    rw [HA.out.2.2.1]
    exact ⟨hE.cell hk.1 (by have := H3.out.2.2.2; simp; omega), hk.2.ext hE hno⟩
  · intro j hj
    simp at hj
    subst hj
    exact lt_of_block H3.out.2.1
  · exact ⟨rfl, Ext.refl _ _, H3.out.2.1⟩
  · rintro l mm pre x W hl ⟨rfl, hE, hnbb⟩ hok
    obtain ⟨q, hq, hpre, rfl⟩ := okC_last hok
    have hpl : pre.length = q := by rw [hpre, encC_len _ _ (by omega)]
    rw [hpl] at hnbb
    obtain ⟨t, ht⟩ : ∃ t, dn.getD q tch0 = t := ⟨_, rfl⟩
    obtain ⟨hTA, hbF, _, _⟩ := HAW.out _ hE
    have hqA : q < A.length := by rw [← HA.out.1, List.length_append]; omega
    obtain ⟨b, off, rfl, c0, c1, c2⟩ := hTA.cells hqA
    rw [← HA.out.1, getD_app _ _ hq, ht] at c0 c1 c2
    obtain ⟨k0, k1⟩ := pair' hbF
    have hqm : q < m := by rw [← HA.out.2.2.1]; exact hq
    have hqn : q < n := by rw [← HA.out.2.1]; exact hqA
    have HE2 := Lib.hid (And.intro hE (And.intro hnbb (And.intro hpl hqm)))
    obtain ⟨hge, hge2, hi0, hi1⟩ := less_facts hqm hqn
    have hne := neTch_same t
    obtain ⟨hw, hw'⟩ := wrap_succ hqm HA.out.2.2.2.2.2
    rw [ht]
    obtain ⟨kt, at', wt⟩ := t
    dsimp only at *
    unfold tchA
    dsimp only
    obtain ⟨W1, hW1⟩ : ∃ W1, W.alloc (.cells #[.int .i64 kt, .int .i64 at', .int .u64 wt] 82) = W1 := ⟨_, rfl⟩
    have hEW1 : Ext [] W W1 := by rw [← hW1]; exact (Ext.refl _ _).alloc _
    have hbt : W1.heap[W.heap.size]? = some (.cells #[.int .i64 kt, .int .i64 at', .int .u64 wt] 82 (0, 0)) := by rw [← hW1]; exact World.alloc_heap_new _ _
    have k0 := hEW1.cell k0 (by simp)
    have k1 := hEW1.cell k1 (by simp)
    have c0 := hEW1.cell c0 (by simp)
    have c1 := hEW1.cell c1 (by simp)
    have c2 := hEW1.cell c2 (by simp)
    have hnb1 := hEW1.at HE2.out.2.1 (by simp)
    have HW1 := Lib.hid hEW1
    clear hE hnbb hok hpre hTA hbF ht hq hqA hpl hqm hqn hEW1
    intro K hK
    gi_wp2
    try rw [hW1]
    clear hW1
    refine hK _ _ HW1.out ?_
    intro W' hC
    clear hK K
    have bn := hC.block _ _ hnb1 (.inr rfl)
    have r0 := (Steady.cell (N := w3.heap.size)) W1 W' k0 hC
    have r1 := (Steady.cell (N := w3.heap.size)) W1 W' k1 hC
    have d0 := (Steady.cell (N := w3.heap.size)) W1 W' c0 hC
    have d1 := (Steady.cell (N := w3.heap.size)) W1 W' c1 hC
    have d2 := (Steady.cell (N := w3.heap.size)) W1 W' c2 hC
    obtain ⟨e0, e1, e2⟩ := three' (hC.block _ _ hbt (.inr rfl))
    have k6 := cell_of (j := 0) (v := .int .i64 q) bn rfl
    have f6 := free_of bn 0
    have HNN := Lib.hid bn
    have HCA := Lib.hid hC
    clear bn hC k0 k1 c0 c1 c2 hnb1 hbt hl
    gi_wp2
    refine wpIn_region_round_quiet _ rfl (by kernel_rfl) (by kernel_rfl) (by kernel_rfl) ?_
    repeat (gi_big_quiet_step (fail))
    refine wpQuietIn_nil ?_
    intro _ hw''
    obtain ⟨nq, hw3⟩ := hw''
    subst hw3
    gi_wp2
    have hE' := (Steady.ext (Nat.le_refl _)) _ _ (HE2.out.1.then HW1.out) HCA.out
    refine ⟨((Ext.refl _ W').drewN nq).setCell (.inl (by simp)) _, [nb + 2], Sub.refl _ _, rfl, (hE'.drewN nq).setCell (.inl (by simp)) _, ?_⟩
    first | rw [List.length_append, HE2.out.2.2.1] | rw [HE2.out.2.2.1] | skip
    exact cell1_set (w := W'.drewN nq) HNN.out _
  · intro D2 mm xs W hD2 hx hi hdD
    obtain ⟨rfl, hE, hnbb⟩ := hi
    rw [show xs = encC dn dn.length from hx, encC_len _ _ (Nat.le_refl _), HA.out.2.2.1] at hnbb
    have hEw : Ext [] w W := (H1.out.1.trans H3.out.1).trans' hE (fun q hq => .inr (by have := H1.out.2.2.2.2.2.2.2.1; simp at hq; omega))
    have hD2' : nb + 2 < D2 := by have := lt_of_block H3.out.2.1; omega
    obtain ⟨hTA, hbF, hbR, hFW⟩ := HAW.out _ hE
    have HNX := Lib.hid (fb_NextF f N L dn W hFW)
    obtain ⟨nx, hnx⟩ : ∃ nx, nextT L = nx := ⟨_, rfl⟩
    obtain ⟨tn, mo⟩ := nx
    rw [hnx] at HNX
    have HZ := Lib.hid (And.intro hEw (And.intro hnbb (And.intro hTA (And.intro hbF (And.intro hbR (And.intro hFW (And.intro hdD (And.intro hD2' hnx))))))))
    clear hE hnbb hEw hx hTA hbF hbR hFW hdD hD2 hD2' hnx
    go_wp2_with fail
    refine HNX.out.mono ?_
    rintro e w4 ⟨rfl, hE4⟩
    obtain ⟨tb, htb⟩ : ∃ tb, w4.heap.size = tb := ⟨_, rfl⟩
    obtain ⟨W5, hw5⟩ : ∃ W5, w4.alloc (.cells #[.int .i64 tn.kd, .int .i64 tn.at', .int .u64 tn.wd] 82) = W5 := ⟨_, rfl⟩
    have hE5 : Ext [] w4 W5 := by rw [← hw5]; exact (Ext.refl _ _).alloc _
    have hb5 : W5.heap[tb]? = some (.cells #[.int .i64 tn.kd, .int .i64 tn.at', .int .u64 tn.wd] 82 (0, 0)) := by rw [← hw5, ← htb]; exact World.alloc_heap_new _ _
    have hX5 := hE4.trans hE5
    have H5 := Lib.hid (And.intro hX5 (And.intro hb5 (And.intro (hX5.at HZ.out.2.1 (by simp)) (And.intro (HZ.out.2.2.1.ext0 hX5) (And.intro (hX5.at HZ.out.2.2.2.1 (by simp)) (And.intro (hX5.at HZ.out.2.2.2.2.1 (by simp)) (And.intro (HZ.out.2.2.2.2.2.1.ext0 hX5) (And.intro (hX5.at HZ.out.2.2.2.2.2.2.1 (by simp)) (show nb + 2 < tb by have := lt_of_block (hE4.at HZ.out.2.1 (by simp)); omega)))))))))
    clear hE4 hE5 hb5 hX5
    have HLF := Lib.hid (fun W' (hS : Ext [nb + 1] W5 W') => fb_Left f N L dn W' (by
      refine H5.out.2.2.2.2.2.2.1.ext hS ?_ (fun q hq => ?_)
      · obtain ⟨_, _, _, _, _, hb, _⟩ := H5.out.2.2.2.2.2.2.1
        intro hm
        simp at hm
        rw [hm, H5.out.2.2.2.2.2.1] at hb
        simp at hb
      · simp at hq
        subst hq
        exact .inr ⟨by have := H1.out.2.2.2.2.2.2.2; omega, fun cur hb => by rw [H5.out.2.2.2.2.2.1] at hb; simp at hb⟩))
    obtain ⟨ll, hll⟩ : ∃ ll, L.length = ll := ⟨_, rfl⟩
    rw [hll] at HLF
    have hnml : (n : Int) - (m : Int) = (ll : Int) := by have := HA.out.2.2.2.2.1; rw [hll] at this; omega
    have hwr : IntKind.i64.wrap (ll : Int) = (ll : Int) := wrap_nat (by have := HA.out.2.2.2.1; have := HA.out.2.2.2.2.1; omega)
    have hm0 : ((m : Int) != (m : Int)) = false := by simp
    have hl0 : ((ll : Int) != (ll : Int)) = false := by simp
    have hmo : decide ((m : Int) < (n : Int)) = mo := by
      have h1 := HZ.out.2.2.2.2.2.2.2.2
      have h2 := HA.out.2.2.2.2.1
      cases L with
      | nil =>
        have : false = mo := by simp [nextT] at h1; exact h1.2.symm
        subst this
        simp at h2 ⊢
        omega
      | cons t r =>
        have : true = mo := by simp [nextT] at h1; exact h1.2.symm
        subst this
        simp at h2 ⊢
        omega
    have hmo2 : decide (m < n) = mo := by
      rw [← hmo]
      by_cases h : m < n
      · rw [decide_eq_true h, decide_eq_true (by omega)]
      · rw [decide_eq_false h, decide_eq_false (by omega)]
    have k5 := cell_of (j := 0) (v := .int .i64 m) H5.out.2.2.1 rfl
    obtain ⟨k0, k1⟩ := pair' H5.out.2.2.2.2.1
    obtain ⟨t0, t1, t2⟩ := three' H5.out.2.1
    clear hll
    cases mo with
    | true =>
      go_upto_region 10 with fail
      try rw [hw5]
      try rw [htb]
      clear hw5 htb
      have HK : Hid (∀ W', Ext [nb + 1] W5 W' → W'.cell? ⟨nb + 2, 0, none⟩ = some (.int .i64 m) ∧ W'.cell? ⟨nb, 0, none⟩ = some (.slice ao n cap) ∧ W'.cell? ⟨nb, 1, none⟩ = some (.int .i64 m)) := by
        intro W' hE
        exact ⟨hE.cell k5 (by simp), hE.cell k0 (by simp), hE.cell k1 (by simp)⟩
      refine wp_region_hd (S := Ext [nb + 1] W5) 23 (by kernel_rfl) (by kernel_rfl) (fun _ d _ _ _ h => by cases d <;> exact h) (Ext.refl _ _).drew ?_
      simp only [List.take_succ_cons, List.take_zero, List.drop_succ_cons, List.drop_zero]
      repeat (first
        | (refine wpHd_no (by rfl) ?_; simp only [Act.put, List.setIfInBounds_toArray, List.set_cons_zero, List.set_cons_succ])
        | (refine wpHd_yes ?_ (by rfl) (fun w hSw => ?_) ?_
           rotate_left
           · (obtain ⟨r0, r1, r2⟩ := HK.out _ hSw; have hcl := (HLF.out _ hSw).mono (fun e w0 (h : e = .returned (.int .i64 ll) ∧ _ = w0) => And.intro h.1 h.2.symm); clear hSw; go_simp; first | exact ⟨rfl, rfl⟩ | exact rfl | exact hcl)
           simp only [Act.put, List.setIfInBounds_toArray, List.set_cons_zero, List.set_cons_succ]))
      refine wpHd_nil ?_
      refine wpTl_nil ?_
      clear HK hnml hwr hm0 hl0 k5 k0 k1 t0 t1 t2 hmo hmo2
      obtain ⟨W6, hW6⟩ : ∃ W6, W5.drew = W6 := ⟨_, rfl⟩
      have hX6 : Ext [] W5 W6 := by rw [← hW6]; exact (Ext.refl _ _).drew
      rw [hW6]
      have H6 := Lib.hid (And.intro (hX6.at H5.out.2.2.2.2.2.1 (by simp)) (And.intro (HZ.out.1.trans (H5.out.1.trans hX6)) (hX6.at H5.out.2.2.2.2.2.2.2.1 (by simp))))
      have k5 := cell_of (j := 0) (v := .int .i64 m) (hX6.at H5.out.2.2.1 (by simp)) rfl
      obtain ⟨k0, k1⟩ := pair' (hX6.at H5.out.2.2.2.2.1 (by simp))
      obtain ⟨t0, t1, t2⟩ := three' (hX6.at H5.out.2.1 (by simp))
      have hT6 := H5.out.2.2.2.1.ext0 hX6
      clear hW6 hX6
      have hml : m < A.length := by
        have h1 := HZ.out.2.2.2.2.2.2.2.2
        rw [← HA.out.1, ← HA.out.2.2.1, List.length_append]
        cases L with
        | nil => simp [nextT] at h1
        | cons t r => simp
      have hgd : A.getD m tch0 = tn := by
        have h1 := HZ.out.2.2.2.2.2.2.2.2
        rw [← HA.out.1, ← HA.out.2.2.1]
        cases L with
        | nil => simp [nextT] at h1
        | cons t r =>
          rw [getD_mid]
          simp [nextT] at h1
          exact h1
      obtain ⟨b, off, rfl, c0, c1, c2⟩ := hT6.cells hml
      rw [hgd] at c0 c1 c2
      have hi0 : (0 : Int) ≤ (m : Int) := by omega
      have hi1 : (m : Int) < (n : Int) := by rw [HA.out.2.1] at hml; omega
      have heq := eqTch_same tn
      have HBB := Lib.hid (World.block_lt_of_cell? _ _ c0)
      have hbne : b ∉ [nb + 1] := by
        intro hm
        simp at hm
        have := H6.out.1
        rw [hm] at c0
        have h3 : W6.cell? ⟨nb + 1, off + m * 3, none⟩ = (#[Value.bool false] : Array Value)[off + m * 3]? := cell_block this _
        rw [h3] at c0
        match hq : off + m * 3, c0 with
        | 0, c0 => simp at c0
        | k + 1, c0 => simp at c0
      clear hT6 hgd hml
      go_upto_region 12 with fail
      have HK : Hid (∀ W', Ext [nb + 1] W6 W' → W'.cell? ⟨nb + 2, 0, none⟩ = some (.int .i64 m) ∧ W'.cell? ⟨nb, 0, none⟩ = some (.slice (some ⟨b, off, none⟩) n cap) ∧ W'.cell? ⟨nb, 1, none⟩ = some (.int .i64 m) ∧ W'.cell? ⟨tb, 0, none⟩ = some (.int .i64 tn.kd) ∧ W'.cell? ⟨tb, 1, none⟩ = some (.int .i64 tn.at') ∧ W'.cell? ⟨tb, 2, none⟩ = some (.int .u64 tn.wd) ∧ W'.cell? ⟨b, off + m * 3, none⟩ = some (.int .i64 tn.kd) ∧ W'.cell? ⟨b, off + m * 3 + 1, none⟩ = some (.int .i64 tn.at') ∧ W'.cell? ⟨b, off + m * 3 + 2, none⟩ = some (.int .u64 tn.wd)) := by
        intro W' hE
        exact ⟨hE.cell k5 (by simp), hE.cell k0 (by simp), hE.cell k1 (by simp), hE.cell t0 (by have := H5.out.2.2.2.2.2.2.2.2; simp; omega), hE.cell t1 (by have := H5.out.2.2.2.2.2.2.2.2; simp; omega), hE.cell t2 (by have := H5.out.2.2.2.2.2.2.2.2; simp; omega), hE.cell c0 hbne, hE.cell c1 hbne, hE.cell c2 hbne⟩
      refine wp_region_hd (S := Ext [nb + 1] W6) 19 (by kernel_rfl) (by kernel_rfl) (fun _ d _ _ _ h => by cases d <;> exact h) (Ext.refl _ _).drew ?_
      simp only [List.take_succ_cons, List.take_zero, List.drop_succ_cons, List.drop_zero]
      repeat (first
        | (refine wpHd_no (by rfl) ?_; simp only [Act.put, List.setIfInBounds_toArray, List.set_cons_zero, List.set_cons_succ])
        | (refine wpHd_yes ?_ (by rfl) (fun w hSw => ?_) ?_
           rotate_left
           · (obtain ⟨r0, r1, r2, r3, r4, r5, r6, r7, r8⟩ := HK.out _ hSw; clear hSw; go_simp; first | exact ⟨rfl, rfl⟩ | exact rfl)
           simp only [Act.put, List.setIfInBounds_toArray, List.set_cons_zero, List.set_cons_succ]))
      refine wpHd_nil ?_
      have f9 := free_of H6.out.1 0
      have k9 := cell_of (j := 0) (v := .bool false) H6.out.1 rfl
      refine wpTl_go rfl (fun K hK => ?_)
      go_simp
      refine hK _ _ (by refine Ext.drew ?_; refine Ext.setCell ?_ (.inl (by simp)) _; exact Ext.refl _ _) ?_
      clear hK K
      try simp only [Act.put, List.setIfInBounds_toArray, List.set_cons_zero, List.set_cons_succ]
      refine wpTl_nil ?_
      obtain ⟨W9, hW9⟩ : ∃ W9, World.drew (W6.setCell ⟨nb + 1, 0, none⟩ (.bool true)) = W9 := ⟨_, rfl⟩
      have b9 : W9.heap[nb + 1]? = some (.cells #[.bool true] 4 (0, 0)) := by rw [← hW9]; exact cell1_set (w := W6) H6.out.1 _
      have hne : D2 ≠ nb + 1 := by have := HZ.out.2.2.2.2.2.2.2.1; omega
      have d9 : W9.heap[D2]? = some (.deferred (some [])) := by rw [← hW9]; exact block_sc (w := W6) (a := ⟨nb + 1, 0, none⟩) hne H6.out.2.2
      have e9 : Ext [] w W9 := by rw [← hW9]; exact ((H6.out.2.1.setCell (p := ⟨nb + 1, 0, none⟩) (.inr (by have := H1.out.2.2.2.2.2.2.2.1; show _ ≤ nb + 1; omega)) _).drew)
      rw [hW9]
      clear hW9 HK
      go_wp2
      have fin : ∀ (tmps : Array Value), tmps.getD 4 undef = .pointer (some ⟨nb + 1, 0, none⟩) → LeavesInM Fence.wide 0 Try.prog Try.f48 tmps (fun e w' => e = .returned (.bool true) ∧ Ext [] w w') ([D2].map fun D => { target := .collected D, args := #[] }) .returning W9 := by
        intro tmps ht
        refine leaves_marks (v := .bool true) [D2] W9 (fun D' hD' => ?_) (by simp) (fun w' hE' => ⟨results_cellb Try.results48 _ _ ⟨nb + 1, 0, none⟩ _ (by kernel_rfl) ht (hE'.cell (cell_of (j := 0) b9 rfl) (by simp; omega)), rfl, ?_⟩)
        · obtain rfl : D' = D2 := by simpa using hD'
          exact d9
        · exact e9.trans' hE' (fun j hj => .inr (by have := HZ.out.2.2.2.2.2.2.2.1; have := H1.out.2.2.2.2.2.2.2.1; simp at hj; omega))
      show LeavesInM _ _ _ _ _ _ _ _ _
      refine fin _ ?_
      rfl
    | false =>
      go_upto_region 10 with fail
      try rw [hw5]
      try rw [htb]
      clear hw5 htb
      have HK : Hid (∀ W', Ext [nb + 1] W5 W' → W'.cell? ⟨nb + 2, 0, none⟩ = some (.int .i64 m) ∧ W'.cell? ⟨nb, 0, none⟩ = some (.slice ao n cap) ∧ W'.cell? ⟨nb, 1, none⟩ = some (.int .i64 m)) := by
        intro W' hE
        exact ⟨hE.cell k5 (by simp), hE.cell k0 (by simp), hE.cell k1 (by simp)⟩
      refine wp_region_hd (S := Ext [nb + 1] W5) 23 (by kernel_rfl) (by kernel_rfl) (fun _ d _ _ _ h => by cases d <;> exact h) (Ext.refl _ _).drew ?_
      simp only [List.take_succ_cons, List.take_zero, List.drop_succ_cons, List.drop_zero]
      repeat (first
        | (refine wpHd_no (by rfl) ?_; simp only [Act.put, List.setIfInBounds_toArray, List.set_cons_zero, List.set_cons_succ])
        | (refine wpHd_yes ?_ (by rfl) (fun w hSw => ?_) ?_
           rotate_left
           · (obtain ⟨r0, r1, r2⟩ := HK.out _ hSw; have hcl := (HLF.out _ hSw).mono (fun e w0 (h : e = .returned (.int .i64 ll) ∧ _ = w0) => And.intro h.1 h.2.symm); clear hSw; go_simp; first | exact ⟨rfl, rfl⟩ | exact rfl | exact hcl)
           simp only [Act.put, List.setIfInBounds_toArray, List.set_cons_zero, List.set_cons_succ]))
      refine wpHd_nil ?_
      refine wpTl_nil ?_
      clear HK hnml hwr hm0 hl0 k5 k0 k1 t0 t1 t2 hmo hmo2
      obtain ⟨W6, hW6⟩ : ∃ W6, W5.drew = W6 := ⟨_, rfl⟩
      have hX6 : Ext [] W5 W6 := by rw [← hW6]; exact (Ext.refl _ _).drew
      rw [hW6]
      have H6 := Lib.hid (And.intro (hX6.at H5.out.2.2.2.2.2.1 (by simp)) (And.intro (HZ.out.1.trans (H5.out.1.trans hX6)) (hX6.at H5.out.2.2.2.2.2.2.2.1 (by simp))))
      have k5 := cell_of (j := 0) (v := .int .i64 m) (hX6.at H5.out.2.2.1 (by simp)) rfl
      obtain ⟨k0, k1⟩ := pair' (hX6.at H5.out.2.2.2.2.1 (by simp))
      obtain ⟨t0, t1, t2⟩ := three' (hX6.at H5.out.2.1 (by simp))
      have hT6 := H5.out.2.2.2.1.ext0 hX6
      clear hW6 hX6
      have htn : tn = tch0 := by
        have h1 := HZ.out.2.2.2.2.2.2.2.2
        cases L with
        | nil => simp [nextT] at h1; exact h1.symm
        | cons t r => simp [nextT] at h1
      subst htn
      have heq := eqTch_same tch0
      clear hT6
      go_upto_region 12 with fail
      have HK : Hid (∀ W', Ext [nb + 1] W6 W' → W'.cell? ⟨nb + 2, 0, none⟩ = some (.int .i64 m) ∧ W'.cell? ⟨nb, 0, none⟩ = some (.slice ao n cap) ∧ W'.cell? ⟨nb, 1, none⟩ = some (.int .i64 m) ∧ W'.cell? ⟨tb, 0, none⟩ = some (.int .i64 0) ∧ W'.cell? ⟨tb, 1, none⟩ = some (.int .i64 0) ∧ W'.cell? ⟨tb, 2, none⟩ = some (.int .u64 0)) := by
        intro W' hE
        exact ⟨hE.cell k5 (by simp), hE.cell k0 (by simp), hE.cell k1 (by simp), hE.cell t0 (by have := H5.out.2.2.2.2.2.2.2.2; simp; omega), hE.cell t1 (by have := H5.out.2.2.2.2.2.2.2.2; simp; omega), hE.cell t2 (by have := H5.out.2.2.2.2.2.2.2.2; simp; omega)⟩
      refine wp_region_hd (S := Ext [nb + 1] W6) 19 (by kernel_rfl) (by kernel_rfl) (fun _ d _ _ _ h => by cases d <;> exact h) (Ext.refl _ _).drew ?_
      simp only [List.take_succ_cons, List.take_zero, List.drop_succ_cons, List.drop_zero]
      repeat (first
        | (refine wpHd_no (by rfl) ?_; simp only [Act.put, List.setIfInBounds_toArray, List.set_cons_zero, List.set_cons_succ])
        | (refine wpHd_yes ?_ (by rfl) (fun w hSw => ?_) ?_
           rotate_left
           · (obtain ⟨r0, r1, r2, r3, r4, r5⟩ := HK.out _ hSw; clear hSw; go_simp; first | exact ⟨rfl, rfl⟩ | exact rfl)
           simp only [Act.put, List.setIfInBounds_toArray, List.set_cons_zero, List.set_cons_succ]))
      refine wpHd_nil ?_
      have f9 := free_of H6.out.1 0
      have k9 := cell_of (j := 0) (v := .bool false) H6.out.1 rfl
      refine wpTl_go rfl (fun K hK => ?_)
      go_simp
      refine hK _ _ (by refine Ext.drew ?_; refine Ext.setCell ?_ (.inl (by simp)) _; exact Ext.refl _ _) ?_
      clear hK K
      try simp only [Act.put, List.setIfInBounds_toArray, List.set_cons_zero, List.set_cons_succ]
      refine wpTl_nil ?_
      obtain ⟨W9, hW9⟩ : ∃ W9, World.drew (W6.setCell ⟨nb + 1, 0, none⟩ (.bool true)) = W9 := ⟨_, rfl⟩
      have b9 : W9.heap[nb + 1]? = some (.cells #[.bool true] 4 (0, 0)) := by rw [← hW9]; exact cell1_set (w := W6) H6.out.1 _
      have hne : D2 ≠ nb + 1 := by have := HZ.out.2.2.2.2.2.2.2.1; omega
      have d9 : W9.heap[D2]? = some (.deferred (some [])) := by rw [← hW9]; exact block_sc (w := W6) (a := ⟨nb + 1, 0, none⟩) hne H6.out.2.2
      have e9 : Ext [] w W9 := by rw [← hW9]; exact ((H6.out.2.1.setCell (p := ⟨nb + 1, 0, none⟩) (.inr (by have := H1.out.2.2.2.2.2.2.2.1; show _ ≤ nb + 1; omega)) _).drew)
      rw [hW9]
      clear hW9 HK
      go_wp2
      have fin : ∀ (tmps : Array Value), tmps.getD 4 undef = .pointer (some ⟨nb + 1, 0, none⟩) → LeavesInM Fence.wide 0 Try.prog Try.f48 tmps (fun e w' => e = .returned (.bool true) ∧ Ext [] w w') ([D2].map fun D => { target := .collected D, args := #[] }) .returning W9 := by
        intro tmps ht
        refine leaves_marks (v := .bool true) [D2] W9 (fun D' hD' => ?_) (by simp) (fun w' hE' => ⟨results_cellb Try.results48 _ _ ⟨nb + 1, 0, none⟩ _ (by kernel_rfl) ht (hE'.cell (cell_of (j := 0) b9 rfl) (by simp; omega)), rfl, ?_⟩)
        · obtain rfl : D' = D2 := by simpa using hD'
          exact d9
        · exact e9.trans' hE' (fun j hj => .inr (by have := HZ.out.2.2.2.2.2.2.2.1; have := H1.out.2.2.2.2.2.2.2.1; simp at hj; omega))
      show LeavesInM _ _ _ _ _ _ _ _ _
      refine fin _ ?_
      rfl
  · intro D2 c W hD2 hi hdD
    exact hi.elim
end Go.Proofs.Ytfojmjkcjdehaaa
namespace Go.Proofs.Ytfojmjkcjdehaaa
open Go Go.RowKit Go.Shelf
attribute [local go_sem] Oper.semAt_some

/-- both fibres and devices, the document's in cells h and g -/
structure FC (W : World) (N f d lb sb h g : Nat) (L dn : List Tch) (D : Dv) : Prop where
  ex : ∃ x y a b c, W.heap[h]? = some (.cells #[x, y] 96 (0, 0)) ∧ W.heap[g]? = some (.cells #[a, b, c] 33 (0, 0)) ∧ FS W N f d lb sb (.agg #[x, y]) (.agg #[a, b, c]) L dn D
theorem FC.ext0 {W W' : World} {N f d lb sb h g : Nat} {L dn : List Tch} {D : Dv} (hc : FC W N f d lb sb h g L dn D) (hE : Ext [] W W') : FC W' N f d lb sb h g L dn D := by
  obtain ⟨x, y, a, b, c, h1, h2, h3⟩ := hc.ex
  exact ⟨x, y, a, b, c, hE.at h1 (by simp), hE.at h2 (by simp), h3.ext0 hE⟩
theorem FC.ne {W : World} {N f d lb sb h g : Nat} {L dn : List Tch} {D : Dv} (hc : FC W N f d lb sb h g L dn D) : h ∉ [f, d, lb, sb] ∧ g ∉ [f, d, lb, sb] := by
  obtain ⟨x, y, a, b, c, h1, h2, h3⟩ := hc.ex
  exact ⟨h3.fd.noT (by decide) (by decide) (by decide) _ _ h1, h3.fd.noT (by decide) (by decide) (by decide) _ _ h2⟩
/-- the cells, as they stand -/
theorem FC.open {W : World} {N f d lb sb h g : Nat} {L dn : List Tch} {D : Dv} (hc : FC W N f d lb sb h g L dn D) : ∃ (ao : Option Addr) (n cap m : Nat) (sg sc tg tc : Nat) (wo : Option Addr) (wc : Nat), (dn ++ L).length = n ∧ dn.length = m ∧ W.heap[h]? = some (.cells #[.slice ao n cap, .int .i64 m] 96 (0, 0)) ∧ W.heap[g]? = some (.cells #[.slice (some ⟨sg, 0, none⟩) D.n sc, .slice (some ⟨tg, 0, none⟩) D.n tc, .slice wo D.W.length wc] 33 (0, 0)) ∧
    FS W N f d lb sb (.agg #[.slice ao n cap, .int .i64 m]) (.agg #[.slice (some ⟨sg, 0, none⟩) D.n sc, .slice (some ⟨tg, 0, none⟩) D.n tc, .slice wo D.W.length wc]) L dn D := by
  obtain ⟨x, y, a, b, c, h1, h2, hS⟩ := hc.ex
  have hr := hS.rf
  obtain ⟨ao, cap, hv, _⟩ := hr
  have hd := hS.rd
  obtain ⟨sg, sc, tg, tc, wo, wc, hu, _⟩ := hd
  simp at hv hu
  obtain ⟨rfl, rfl⟩ := hv
  obtain ⟨rfl, rfl, rfl⟩ := hu
  rw [← List.length_append] at hS h1
  exact ⟨ao, _, cap, _, sg, sc, tg, tc, wo, wc, rfl, rfl, h1, h2, hS⟩
theorem FOk.mono {L dn : List Tch} {D : Dv} {k k' : Nat} (h : FOk L dn D k) (hk : k ≤ k') : FOk L dn D k' := ⟨h.right, Nat.le_trans h.len hk, h.ok, h.nn⟩
/-- two new values are laid in blocks p and q -/
theorem FC.lay {W W' : World} {N f d lb sb p q : Nat} {L dn : List Tch} {D : Dv} {x y a b c x0 y0 a0 b0 c0 : Value} (hS : FS W N f d lb sb (.agg #[x, y]) (.agg #[a, b, c]) L dn D) (hp : W.heap[p]? = some (.cells #[x0, y0] 96 (0, 0))) (hq : W.heap[q]? = some (.cells #[a0, b0, c0] 33 (0, 0))) (hN : N ≤ p) (hN2 : N ≤ q)
    (hW : ((((W.setCell ⟨p, 0, none⟩ x).setCell ⟨p, 1, none⟩ y).setCell ⟨q, 0, none⟩ a).setCell ⟨q, 1, none⟩ b).setCell ⟨q, 2, none⟩ c = W') : FC W' N f d lb sb p q L dn D ∧ Ext [p, q] W W' := by
  have n1 : p ≠ q := fun h => by
    rw [h, hq] at hp
    simp at hp
  obtain ⟨A, hA⟩ : ∃ A, (W.setCell ⟨p, 0, none⟩ x).setCell ⟨p, 1, none⟩ y = A := ⟨_, rfl⟩
  rw [hA] at hW
  have a2 : A.heap[p]? = some (.cells #[x, y] 96 (0, 0)) := by rw [← hA]; exact pair_set1 (pair_set0 hp)
  have a3 : A.heap[q]? = some (.cells #[a0, b0, c0] 33 (0, 0)) := by rw [← hA]; exact block_sc (a := ⟨p, 1, none⟩) n1.symm (block_sc (a := ⟨p, 0, none⟩) n1.symm hq)
  have eA : Ext [p, q] W A := by rw [← hA]; exact ((Ext.refl _ W).setCell (p := ⟨p, 0, none⟩) (.inl (by simp)) _).setCell (p := ⟨p, 1, none⟩) (.inl (by simp)) _
  clear hA
  have c2 : W'.heap[p]? = some (.cells #[x, y] 96 (0, 0)) := by rw [← hW]; exact block_sc (a := ⟨q, 2, none⟩) n1 (block_sc (a := ⟨q, 1, none⟩) n1 (block_sc (a := ⟨q, 0, none⟩) n1 a2))
  have c3 : W'.heap[q]? = some (.cells #[a, b, c] 33 (0, 0)) := by rw [← hW]; exact tri_set a3 a b c
  have e : Ext [p, q] W W' := by rw [← hW]; exact ext_three eA (g := q) (.inl (by simp)) a b c
  clear hW eA a2 a3
  have key : ∀ (g : Nat) (cur : Array Value) (e : TypeId), W.heap[g]? = some (.cells cur e (0, 0)) → e ≠ 96 → e ≠ 33 → g ∉ [p, q] := fun g cur e hg h1 h2 hm => by
    simp at hm
    rcases hm with rfl | rfl
    · rw [hp] at hg; simp at hg; exact h1 hg.2.symm
    · rw [hq] at hg; simp at hg; exact h2 hg.2.symm
  have hno : NoTc W N [p, q] := fun g hg => by
    refine .inr ⟨by simp at hg; omega, fun cur hb => key g cur 82 hb (by decide) (by decide) hg⟩
  have hfib := hS.fd.fib
  obtain ⟨_, lo, lc, po, pc, hb, _⟩ := hfib
  have hD := hS.fd.dev
  obtain ⟨⟨cl, cs', wv, g1, _⟩, ⟨d2, g2, _⟩, ⟨d3, g3, _⟩, _⟩ := hD
  refine ⟨⟨x, y, a, b, c, c2, c3, ⟨hS.fd.fib.ext e (key _ _ _ hb (by decide) (by decide)) hno, hS.fd.dev.ext e (key _ _ _ g1 (by decide) (by decide)) (key _ _ _ g2 (by decide) (by decide)) (key _ _ _ g3 (by decide) (by decide)) (fun g cur hg => key _ _ _ hg (by decide) (by decide)), hS.fd.ok, hS.fd.hd, hS.fd.hl, hS.fd.hs⟩, hS.rf.ext e hno, hS.rd.ext e (fun g cur hg => key _ _ _ hg (by decide) (by decide)) (fun g cur hg => key _ _ _ hg (by decide) (by decide))⟩, e⟩
/-- behind the region in which both are called: new cells o, q -/
structure AcR (wr wx : World) (N f d lb sb f' o q : Nat) (S : List Tch × List Tch × Dv) : Prop where
  fc : FC wx N f' d lb sb o q S.1 S.2.1 S.2.2
  ext : Ext [f, d, lb, sb] wr wx
  hf : f' = f ∨ wr.heap.size ≤ f'
  ho : wr.heap.size ≤ o
  hq : wr.heap.size ≤ q
theorem AcR.of {wr W W' : World} {N f d lb sb f' p q : Nat} {S : List Tch × List Tch × Dv} {x y a b c x0 y0 a0 b0 c0 : Value} (hE : Ext [f, d, lb, sb] wr W) (hf : f' = f ∨ wr.heap.size ≤ f') (hN : N ≤ wr.heap.size) (hS : FS W N f' d lb sb (.agg #[x, y]) (.agg #[a, b, c]) S.1 S.2.1 S.2.2) (hp : W.heap[p]? = some (.cells #[x0, y0] 96 (0, 0))) (hq : W.heap[q]? = some (.cells #[a0, b0, c0] 33 (0, 0))) (p1 : wr.heap.size ≤ p) (q1 : wr.heap.size ≤ q)
    (hW : ((((W.setCell ⟨p, 0, none⟩ x).setCell ⟨p, 1, none⟩ y).setCell ⟨q, 0, none⟩ a).setCell ⟨q, 1, none⟩ b).setCell ⟨q, 2, none⟩ c = W') : AcR wr W' N f d lb sb f' p q S := by
  obtain ⟨h1, h2⟩ := FC.lay hS hp hq (by omega) (by omega) hW
  exact ⟨h1, hE.trans' h2 (fun j hj => .inr (by simp at hj; omega)), hf, p1, q1⟩
/-- the law's state between two calls -/
structure FP (w wr : World) (f d lb sb h g : Nat) (L dn : List Tch) (D : Dv) (k : Nat) : Prop where
  fc : FC wr w.heap.size f d lb sb h g L dn D
  ok : FOk L dn D k
  res : wr.heap[w.heap.size]? = some (.cells #[.bool false] 4 (0, 0))
  ext : Ext [] w wr
  hf : w.heap.size < f
  hd : w.heap.size < d
  hl : w.heap.size < lb
  hs : w.heap.size < sb
  hh : w.heap.size < h
  hg : w.heap.size < g
theorem FP.ext1 {w wr W : World} {f d lb sb h g : Nat} {L dn : List Tch} {D : Dv} {k : Nat} (hp : FP w wr f d lb sb h g L dn D k) (hE : Ext [] wr W) : FP w W f d lb sb h g L dn D k :=
  ⟨hp.fc.ext0 hE, hp.ok, hE.at hp.res (by simp), hp.ext.trans hE, hp.hf, hp.hd, hp.hl, hp.hs, hp.hh, hp.hg⟩
theorem FP.extD {w wr W : World} {f d lb sb h g : Nat} {L dn : List Tch} {D : Dv} {k : Nat} (hp : FP w wr f d lb sb h g L dn D k) (hE : Ext [f, d, lb, sb] wr W) : Ext [] w W ∧ W.heap[w.heap.size]? = some (.cells #[.bool false] 4 (0, 0)) :=
  ⟨hp.ext.trans' hE (fun j hj => .inr (by have := hp.hf; have := hp.hd; have := hp.hl; have := hp.hs; simp at hj; omega)), hE.at hp.res (by have := hp.hf; have := hp.hd; have := hp.hl; have := hp.hs; simp; omega)⟩
theorem FP.fib {w wr : World} {f d lb sb h g : Nat} {L dn : List Tch} {D : Dv} {k : Nat} (hp : FP w wr f d lb sb h g L dn D k) : FibAt wr w.heap.size f L dn := by
  obtain ⟨_, _, _, _, _, _, _, hS⟩ := hp.fc.ex
  exact hS.fd.fib
/-- the answers are laid where the law keeps its own -/
theorem FP.step {w wr wx W' : World} {f d lb sb h g f' o q : Nat} {L dn : List Tch} {D : Dv} {k k' : Nat} {S : List Tch × List Tch × Dv} {x y a b c : Value} (hp : FP w wr f d lb sb h g L dn D k) (ha : AcR wr wx w.heap.size f d lb sb f' o q S) (hok : FOk S.1 S.2.1 S.2.2 k')
    (hx : wx.heap[o]? = some (.cells #[x, y] 96 (0, 0))) (hy : wx.heap[q]? = some (.cells #[a, b, c] 33 (0, 0)))
    (hW : ((((wx.setCell ⟨h, 0, none⟩ x).setCell ⟨h, 1, none⟩ y).setCell ⟨g, 0, none⟩ a).setCell ⟨g, 1, none⟩ b).setCell ⟨g, 2, none⟩ c = W') : FP w W' f' d lb sb h g S.1 S.2.1 S.2.2 k' := by
  obtain ⟨x1, y1, a1, b1, c1, h1, h2, _⟩ := hp.fc.ex
  obtain ⟨hn1, hn2⟩ := hp.fc.ne
  obtain ⟨x2, y2, a2, b2, c2, e1, e2, hS⟩ := ha.fc.ex
  rw [hx] at e1
  rw [hy] at e2
  simp at e1 e2
  obtain ⟨rfl, rfl⟩ := e1
  obtain ⟨rfl, rfl, rfl⟩ := e2
  obtain ⟨hc, hE⟩ := FC.lay hS (ha.ext.at h1 hn1) (ha.ext.at h2 hn2) (Nat.le_of_lt hp.hh) (Nat.le_of_lt hp.hg) hW
  obtain ⟨k1, k2⟩ := hp.extD ha.ext
  have := lt_of_block hp.res
  have := ha.hf
  refine ⟨hc, hok, hE.at k2 (by have := hp.hh; have := hp.hg; simp; omega), k1.trans' hE (fun j hj => .inr (by have := hp.hh; have := hp.hg; simp at hj; omega)), ?_, hp.hd, hp.hl, hp.hs, hp.hh, hp.hg⟩
  have := hp.hf
  omega
end Go.Proofs.Ytfojmjkcjdehaaa
