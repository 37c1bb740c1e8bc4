/- The document's fibre: Step, the walk (printed by wip/mkFl.py). The document's fibre: Then (printed by wip/mkFn.py). -/
import Derived.Test.YtfojmjkcjdehaaaFcA
namespace Go.Proofs.Ytfojmjkcjdehaaa
open Go Go.RowKit Go.Shelf
attribute [local go_sem] Oper.semAt_some

/-- what the document's Step tells -/
def StepQ (N : Nat) (w : World) (r : StepR) : Ending → World → Prop := fun e w' => ∃ v' u', e = .returned (.tuple #[v', u', .agg #[.int .i64 r.t.kd, .int .i64 r.t.at', .int .u64 r.t.wd], .int .i64 r.e]) ∧ Ext [] w w' ∧ RFib w' N v' r.L r.dn ∧ RefAt w' u' r.D
set_option maxRecDepth 100000 in
set_option maxHeartbeats 8000000 in
theorem rf_fStep (N : Nat) (v u : Value) (L dn : List Tch) (D : Dv) (w : World) (hv : RFib w N v L dn) (hu : RefAt w u D) (hn : DvOk D) (hr : ∀ t ∈ L, t.right = true) (hl : (dn ++ L).length ≤ 999999) :
    Calls Try.prog 96 #[v, u] w (StepQ N w (fstep L dn D)) := by
  have HRU := Lib.hid hu
  obtain ⟨ao, cap, rfl, hA⟩ := hv
  obtain ⟨sg, sc, tg, tc, wo, wc, rfl, _, _, _⟩ := hu
  obtain ⟨A, hAA⟩ : ∃ A, dn ++ L = A := ⟨_, rfl⟩
  obtain ⟨n, hnn⟩ : ∃ n, A.length = n := ⟨_, rfl⟩
  obtain ⟨m, hmm⟩ : ∃ m, dn.length = m := ⟨_, rfl⟩
  rw [hAA] at hA hl ⊢
  rw [hnn] at hl ⊢
  rw [hmm]
  obtain ⟨nb, hnb⟩ : ∃ nb, w.heap.size = nb := ⟨_, rfl⟩
  have hst := StB.start (w := w) #[.slice ao n cap, .int .i64 m] #[.slice (some ⟨sg, 0, none⟩) D.n sc, .slice (some ⟨tg, 0, none⟩) D.n tc, .slice wo D.W.length wc]
  obtain ⟨W0, hw0⟩ : ∃ W0, (((((w.alloc (.cells #[.slice ao n cap, .int .i64 m] 96)).alloc (.cells #[.slice (some ⟨sg, 0, none⟩) D.n sc, .slice (some ⟨tg, 0, none⟩) D.n tc, .slice wo D.W.length wc] 33)).alloc (.cells #[.slice none 0 0, .int .i64 0] 96)).alloc (.cells #[.slice none 0 0, .slice none 0 0, .slice none 0 0] 33)).alloc (.cells #[.int .i64 0, .int .i64 0, .int .u64 0] 82)) = W0 := ⟨_, rfl⟩
  rw [hw0, hnb] at hst
  have HA := Lib.hid (And.intro hA (And.intro hAA (And.intro hnn (And.intro hmm hl))))
  have HST := Lib.hid hst
  have HN := Lib.hid hn
  obtain ⟨k0, k1⟩ := pair' hst.b0
  obtain ⟨q0, q1, q2⟩ := three hst.b1
  clear hst hn hA hl
  cases L with
  | nil =>
    have heq : ((m : Int) == (n : Int)) = true := by rw [← hnn, ← hmm, ← hAA, List.append_nil]; simp
    clear hr hAA hnn hmm
    go_enter Try.func96, Try.ntmps96
    go_upto_region 2 with fail
    try rw [hw0]
    try rw [hnb]
    try simp only [Nat.add_assoc, Nat.reduceAdd]
    clear hw0
    have HK : Hid (∀ W', Ext [nb + 2, nb + 3, nb + 4] W0 W' → W'.cell? ⟨nb, 0, none⟩ = some (.slice ao n cap) ∧ W'.cell? ⟨nb, 1, none⟩ = some (.int .i64 m) ∧ W'.cell? ⟨nb + 1, 0, none⟩ = some (.slice (some ⟨sg, 0, none⟩) D.n sc) ∧ W'.cell? ⟨nb + 1, 1, none⟩ = some (.slice (some ⟨tg, 0, none⟩) D.n tc) ∧ W'.cell? ⟨nb + 1, 2, none⟩ = some (.slice wo D.W.length wc)) := by
      intro W' hE
      exact ⟨hE.cell k0 (by simp), hE.cell k1 (by simp), hE.cell q0 (by simp), hE.cell q1 (by simp), hE.cell q2 (by simp)⟩
    refine wp_region_hd (S := Ext [nb + 2, nb + 3, nb + 4] W0) 3 (by kernel_rfl) (by kernel_rfl) (fun _ d _ _ _ h => by cases d <;> exact h) (Ext.refl _ _).drew ?_
    simp only [List.take_succ_cons, List.take_zero, List.drop_succ_cons, List.drop_zero]
    repeat (first
      | (refine wpHd_yes ?_ (by rfl) (fun w hSw => ?_) ?_
         rotate_left
         · (obtain ⟨r0, r1, r2, r3, r4⟩ := HK.out _ hSw; clear hSw; go_simp; first | exact ⟨rfl, rfl⟩ | exact rfl)
         simp only [Act.put, List.setIfInBounds_toArray, List.set_cons_zero, List.set_cons_succ]))
    refine wpHd_nil ?_
    obtain ⟨z0, z1⟩ := pair' HST.out.b2
    obtain ⟨z2, z3, z4⟩ := three HST.out.b3
    obtain ⟨z5, z6, z7⟩ := three HST.out.b4
    have f0 := free_of HST.out.b2 0
    have f1 := free_of HST.out.b2 1
    have f2 := free_of HST.out.b3 0
    have f3 := free_of HST.out.b3 1
    have f4 := free_of HST.out.b3 2
    have f5 := free_of HST.out.b4 0
    have f6 := free_of HST.out.b4 1
    have f7 := free_of HST.out.b4 2
    iterate 4 (
      refine wpTl_go rfl (fun K hK => ?_)
      go_simp
      refine hK _ _ (by refine Ext.drew ?_; (repeat (refine Ext.setCell ?_ (.inl (by simp)) _)); exact Ext.refl _ _) ?_
      clear hK K
      try simp only [Act.put, List.setIfInBounds_toArray, List.set_cons_zero, List.set_cons_succ])
    refine wpTl_nil ?_
    go_wp2
    obtain ⟨W9, hW9⟩ : ∃ W9, World.drew ((((((((W0.setCell ⟨nb + 2, 0, none⟩ (.slice ao n cap)).setCell ⟨nb + 2, 1, none⟩ (.int .i64 m)).setCell ⟨nb + 3, 0, none⟩ (.slice (some ⟨sg, 0, none⟩) D.n sc)).setCell ⟨nb + 3, 1, none⟩ (.slice (some ⟨tg, 0, none⟩) D.n tc)).setCell ⟨nb + 3, 2, none⟩ (.slice wo D.W.length wc)).setCell ⟨nb + 4, 0, none⟩ (.int .i64 0)).setCell ⟨nb + 4, 1, none⟩ (.int .i64 0)).setCell ⟨nb + 4, 2, none⟩ (.int .u64 0)) = W9 := ⟨_, rfl⟩
    have hret := HST.out.ret (.slice ao n cap) (.int .i64 m) (.slice (some ⟨sg, 0, none⟩) D.n sc) (.slice (some ⟨tg, 0, none⟩) D.n tc) (.slice wo D.W.length wc) (.int .i64 0) (.int .i64 0) (.int .u64 0) W9 hW9
    rw [hW9]
    clear hW9
    refine bodyPost_ret (results_ccct Try.results96 _ _ (nb + 2) (nb + 3) (nb + 4) _ _ _ #[.slice ao n cap, .int .i64 m] #[.slice (some ⟨sg, 0, none⟩) D.n sc, .slice (some ⟨tg, 0, none⟩) D.n tc, .slice wo D.W.length wc] #[.int .i64 0, .int .i64 0, .int .u64 0] _ _ _ _ _ _ (.int .i64 5) rfl rfl rfl rfl hret.1 hret.2.1 hret.2.2.1 Try.underlying96 rfl (by kernel_rfl) Try.underlying33 rfl (by kernel_rfl) Try.underlying82 rfl (by kernel_rfl)) rfl ?_
    rw [show fstep [] dn D = ⟨tch0, 5, [], dn, D⟩ from rfl]
    exact ⟨_, _, rfl, hret.2.2.2.1, ⟨ao, cap, by dsimp only; rw [HA.out.2.1, HA.out.2.2.1, HA.out.2.2.2.1], by dsimp only; rw [HA.out.2.1]; exact HA.out.1.ext0 hret.2.2.2.1⟩, HRU.out.ext0 hret.2.2.2.1⟩
  | cons t r =>
    obtain ⟨k, a, x⟩ := t
    have hml : m < A.length := by rw [← hAA, ← hmm]; simp
    have hmn : m < n := by rw [← hnn]; exact hml
    have hgd : A.getD m tch0 = ⟨k, a, x⟩ := by rw [← hAA, ← hmm]; exact getD_mid _ _ _
    obtain ⟨b, off, rfl, c0, c1, c2⟩ := (HA.out.1.ext0 HST.out.ext).cells hml
    rw [hgd] at c0 c1 c2
    dsimp only at c0 c1 c2
    have hrt := hr ⟨k, a, x⟩ (List.mem_cons_self ..)
    have hkd := Tch.right_kind hrt
    dsimp only at hkd
    have heq : ((m : Int) == (n : Int)) = false := by simp; omega
    have hi0 : (0 : Int) ≤ (m : Int) := by omega
    have hi1 : (m : Int) < (n : Int) := by omega
    have HRT := Lib.hid (And.intro hrt (And.intro hkd (And.intro hml hgd)))
    clear hr hAA hnn hmm hgd hml hmn hrt hkd
    obtain ⟨tb, htb⟩ : ∃ tb, W0.heap.size = tb := ⟨_, rfl⟩
    obtain ⟨W1, hw1⟩ : ∃ W1, W0.alloc (.cells #[.int .i64 k, .int .i64 a, .int .u64 x] 82) = W1 := ⟨_, rfl⟩
    have hE1 : Ext [] W0 W1 := by rw [← hw1]; exact (Ext.refl _ _).alloc _
    have hb1 : W1.heap[tb]? = some (.cells #[.int .i64 k, .int .i64 a, .int .u64 x] 82 (0, 0)) := by rw [← hw1, ← htb]; exact World.alloc_heap_new _ _
    have H1 := Lib.hid (And.intro (HST.out.ext0 hE1) (And.intro hb1 (show nb + 5 ≤ tb by have := HST.out.lt; omega)))
    clear hE1 hb1
    go_enter Try.func96, Try.ntmps96
    go_upto_region 4 with fail
    try rw [hw0]
    try rw [hw1]
    try rw [htb]
    try rw [hnb]
    try simp only [Nat.add_assoc, Nat.reduceAdd]
    clear hw0 hw1 htb c0 c1 c2 heq hi0 hi1 k0 k1 q0 q1 q2
    obtain ⟨k0, k1⟩ := pair' H1.out.1.b0
    obtain ⟨q0, q1, q2⟩ := three H1.out.1.b1
    obtain ⟨t0, t1, t2⟩ := three H1.out.2.1
    by_cases hk1 : k = 1
    · subst hk1
      have HLD := Lib.hid (rf_Load _ D a W1 (HRU.out.ext0 H1.out.1.ext) HN.out)
      by_cases hl0 : (D.load a).2 = 0
      · rw [hl0] at HLD
        obtain ⟨x', hx'⟩ : ∃ x', (D.load a).1 = x' := ⟨_, rfl⟩
        rw [hx'] at HLD
        have HFS := Lib.hid (fstep_ok (r := r) (dn := dn) (t' := ⟨1, a, x'⟩) HRT.out.1 (show (playOne D ⟨1, a, x⟩).2 = 0 from hl0) (by unfold stepT; rw [if_pos rfl, hx']))
        have HP1 : Hid (playOne D ⟨1, a, x'⟩ = (D, 0)) := by
          show (D, (D.load a).2) = _
          rw [hl0]
        rw [show (playOne D ⟨1, a, x⟩).1 = D from rfl] at HFS
        clear hl0 hx'
        go_wp2_with fail
        refine HLD.out.mono ?_
        rintro e w2 ⟨rfl, hE2⟩
        have hb2 := hE2.at H1.out.2.1 (by simp)
        have f2 := free_of hb2 2
        obtain ⟨t0, t1, t2⟩ := three hb2
        obtain ⟨W3, hw3⟩ : ∃ W3, w2.setCell ⟨tb, 2, none⟩ (.int .u64 x') = W3 := ⟨_, rfl⟩
        have hS3 : StB w W3 nb #[.slice (some ⟨b, off, none⟩) n cap, .int .i64 m] #[.slice (some ⟨sg, 0, none⟩) D.n sc, .slice (some ⟨tg, 0, none⟩) D.n tc, .slice wo D.W.length wc] := by
          rw [← hw3]
          exact (H1.out.1.ext0 hE2).ext1 ((Ext.refl [tb] w2).setCell (.inl (by simp)) _) (fun q hq => by simp at hq; have := H1.out.2.2; omega)
        have hb3 : W3.heap[tb]? = some (.cells #[.int .i64 1, .int .i64 a, .int .u64 x'] 82 (0, 0)) := by rw [← hw3]; exact tri_set2 hb2 _
        have H3 := Lib.hid (And.intro hS3 hb3)
        clear hE2 hb2 hS3 hb3
        go_upto_region 9 with fail
        try rw [hw3]
        clear hw3 f2 t0 t1 t2 k0 k1 q0 q1 q2
        obtain ⟨k0, k1⟩ := pair' H3.out.1.b0
        obtain ⟨q0, q1, q2⟩ := three H3.out.1.b1
        obtain ⟨t0, t1, t2⟩ := three H3.out.2
        have HOC := Lib.hid (rf_One _ D ⟨1, a, x'⟩ W3 (HRU.out.ext0 H3.out.1.ext) HN.out (.inl rfl))
        rw [HP1.out] at HOC
        go_wp2_with fail
        refine HOC.out.mono ?_
        rintro e w4 ⟨v4, rfl, hE4, hR4⟩
        have hR4' := hR4
        obtain ⟨sg4, sc4, tg4, tc4, wo4, wc4, rfl, _, _, _⟩ := hR4'
        obtain ⟨pb, hpb⟩ : ∃ pb, w4.heap.size = pb := ⟨_, rfl⟩
        obtain ⟨W5, hw5⟩ : ∃ W5, w4.alloc (.cells #[.slice (some ⟨sg4, 0, none⟩) D.n sc4, .slice (some ⟨tg4, 0, none⟩) D.n tc4, .slice wo4 D.W.length wc4] 33) = W5 := ⟨_, rfl⟩
        have hE5 : Ext [] w4 W5 := by rw [← hw5]; exact (Ext.refl _ _).alloc _
        have hb5 : W5.heap[pb]? = some (.cells #[.slice (some ⟨sg4, 0, none⟩) D.n sc4, .slice (some ⟨tg4, 0, none⟩) D.n tc4, .slice wo4 D.W.length wc4] 33 (0, 0)) := by rw [← hw5, ← hpb]; exact World.alloc_heap_new _ _
        have H5 := Lib.hid (And.intro (H3.out.1.ext0 (hE4.trans hE5)) (And.intro hb5 (And.intro ((hE4.trans hE5).at H3.out.2 (by simp)) (And.intro (hR4.ext0 hE5) (show nb + 5 ≤ pb by have := H3.out.1.lt; have := hE4.size; omega)))))
        clear hE4 hE5 hb5 hR4 k0 k1 q0 q1 q2 t0 t1 t2
        obtain ⟨k0, k1⟩ := pair' H5.out.1.b0
        obtain ⟨q0, q1, q2⟩ := three H5.out.1.b1
        obtain ⟨i0, hi, hz0, hz1, hz2⟩ := info_parts infoTch
        have hI1 := Lib.hid hi
        have hI2 := Lib.hid hz0
        have hI3 := Lib.hid hz1
        have hI4 := Lib.hid hz2
        clear hi hz0 hz1 hz2
        go_wp2_with (at_builtin; (try rw [hw5]); (try rw [hpb]); refine wpList_append_any rfl _ _ _ rfl W5.heap.size 82 i0 _ 3 24 Try.underlying75 hI1.out hI2.out hI3.out hI4.out rfl (by omega) (.slice none 0 0) 0 [] rfl ?c4 (some ⟨b, off, none⟩) n cap (rowC (tR A) n) rfl ?c0 ?c1 ?c2 ?c3 ?_)
        case c4 => exact World.ownsRow_nil _ _ _ _
        case c0 =>
          have hs := (HA.out.1.src).ext (k := []) H5.out.1.ext (fun _ _ => by simp)
          rw [HA.out.2.2.1] at hs
          exact hs
        case c1 => have := HA.out.2.2.2.2; unfold maxLen; omega
        case c2 => have := HA.out.2.2.2.2; omega
        case c3 => exact Nat.le_refl _
        intro v6 w6 ho6 hE6 _
        have hX6 : Ext [] W5 w6 := hE6
        have hT6 : TcOwn w6 W5.heap.size v6 A := by
          unfold TcOwn
          rw [HA.out.2.2.1]
          simpa using ho6
        obtain ⟨g6, c6, rfl, hcur, hTc⟩ := hT6.box (N := N) (by have := HRT.out.2.2.1; omega)
        rw [HA.out.2.2.1]
        have hg6 : W5.heap.size ≤ g6 := hcur.2
        obtain ⟨cur, hcur⟩ := hcur.1
        have H6 := Lib.hid (And.intro (H5.out.1.ext0 hX6) (And.intro (hX6.at H5.out.2.1 (by simp)) (And.intro (hX6.at H5.out.2.2.1 (by simp)) (And.intro (H5.out.2.2.2.1.ext0 hX6) (And.intro hcur (And.intro hTc hg6))))))
        have f6 := fun j => free_of hcur j
        have j0 := hTc.cells HRT.out.2.2.1
        obtain ⟨_, _, hjj, y0, y1, y2⟩ := j0
        simp at hjj
        obtain ⟨rfl, rfl⟩ := hjj
        rw [Nat.zero_add] at y0 y1 y2
        have hi0 : (0 : Int) ≤ (m : Int) := by omega
        have hi1 : (m : Int) < (n : Int) := by have := HRT.out.2.2.1; rw [HA.out.2.2.1] at this; omega
        have e0 := f6 (m * 3)
        have e1 := f6 (m * 3 + 1)
        have e2 := f6 (m * 3 + 2)
        clear hw5 hpb ho6 hE6 hX6 hT6 hTc hcur hg6 f6 k0 k1 q0 q1 q2
        obtain ⟨k0, k1⟩ := pair' H6.out.1.b0
        obtain ⟨q0, q1, q2⟩ := three H6.out.1.b1
        obtain ⟨t0, t1, t2⟩ := three H6.out.2.2.1
        go_upto_region 14 with fail
        obtain ⟨W7, hw7⟩ : ∃ W7, ((w6.setCell ⟨g6, m * 3, none⟩ (.int .i64 1)).setCell ⟨g6, m * 3 + 1, none⟩ (.int .i64 a)).setCell ⟨g6, m * 3 + 2, none⟩ (.int .u64 x') = W7 := ⟨_, rfl⟩
        have hS7 := H6.out.2.2.2.2.2.1.set3 H6.out.2.2.2.2.1 HRT.out.2.2.1 ⟨1, a, x'⟩ W7 hw7.symm
        try rw [hw7]
        clear hw7 y0 y1 y2 e0 e1 e2 hi0 hi1 k0 k1 q0 q1 q2 t0 t1 t2
        have hne : ∀ q, q ∈ [g6] → nb + 5 ≤ q := fun q hq => by
          simp at hq
          have := H6.out.2.2.2.2.2.2
          have := H5.out.1.lt
          omega
        have hpg : pb ∉ [g6] := by
          have := H6.out.2.2.2.2.2.2
          have := lt_of_block H5.out.2.1
          simp
          omega
        have htg : tb ∉ [g6] := by
          have := H6.out.2.2.2.2.2.2
          have := lt_of_block H5.out.2.2.1
          simp
          omega
        have H7 := Lib.hid (And.intro (H6.out.1.ext1 hS7.2 hne) (And.intro (hS7.2.at H6.out.2.1 hpg) (And.intro (hS7.2.at H6.out.2.2.1 htg) hS7)))
        clear hS7 hne hpg htg
        obtain ⟨k0, k1⟩ := pair' H7.out.1.b0
        obtain ⟨d0, d1, d2⟩ := three H7.out.2.1
        obtain ⟨t0, t1, t2⟩ := three H7.out.2.2.1
        have hwm : IntKind.i64.wrap ((m : Int) + 1) = (m : Int) + 1 := by
          rw [IntKind.wrap_i64]
          have := HA.out.2.2.2.2
          have := HRT.out.2.2.1
          rw [HA.out.2.2.1] at this
          omega
        have HK : Hid (∀ W', Ext [nb + 2, nb + 3, nb + 4] W7 W' → W'.cell? ⟨nb, 1, none⟩ = some (.int .i64 m) ∧ W'.cell? ⟨pb, 0, none⟩ = some (.slice (some ⟨sg4, 0, none⟩) D.n sc4) ∧ W'.cell? ⟨pb, 1, none⟩ = some (.slice (some ⟨tg4, 0, none⟩) D.n tc4) ∧ W'.cell? ⟨pb, 2, none⟩ = some (.slice wo4 D.W.length wc4) ∧ W'.cell? ⟨tb, 0, none⟩ = some (.int .i64 1) ∧ W'.cell? ⟨tb, 1, none⟩ = some (.int .i64 a) ∧ W'.cell? ⟨tb, 2, none⟩ = some (.int .u64 x')) := by
          intro W' hE
          exact ⟨hE.cell k1 (by simp), hE.cell d0 (by have := H5.out.2.2.2.2; simp; omega), hE.cell d1 (by have := H5.out.2.2.2.2; simp; omega), hE.cell d2 (by have := H5.out.2.2.2.2; simp; omega), hE.cell t0 (by have := H1.out.2.2; simp; omega), hE.cell t1 (by have := H1.out.2.2; simp; omega), hE.cell t2 (by have := H1.out.2.2; simp; omega)⟩
        refine wp_region_hd (S := Ext [nb + 2, nb + 3, nb + 4] W7) 7 (by kernel_rfl) (by kernel_rfl) (fun _ d _ _ _ h => by cases d <;> exact h) (Ext.refl _ _).drew ?_
        simp only [List.take_succ_cons, List.take_zero, List.drop_succ_cons, List.drop_zero]
        repeat (first
          | (refine wpHd_yes ?_ (by rfl) (fun w hSw => ?_) ?_
             rotate_left
             · (obtain ⟨r0, r1, r2, r3, r4, r5, r6⟩ := HK.out _ hSw; clear hSw; go_simp; first | exact ⟨rfl, rfl⟩ | exact rfl)
             simp only [Act.put, List.setIfInBounds_toArray, List.set_cons_zero, List.set_cons_succ]))
        refine wpHd_nil ?_
        obtain ⟨z0, z1⟩ := pair' H7.out.1.b2
        obtain ⟨z2, z3, z4⟩ := three H7.out.1.b3
        obtain ⟨z5, z6, z7⟩ := three H7.out.1.b4
        have f0 := free_of H7.out.1.b2 0
        have f1 := free_of H7.out.1.b2 1
        have f2 := free_of H7.out.1.b3 0
        have f3 := free_of H7.out.1.b3 1
        have f4 := free_of H7.out.1.b3 2
        have f5 := free_of H7.out.1.b4 0
        have f6 := free_of H7.out.1.b4 1
        have f7 := free_of H7.out.1.b4 2
        iterate 4 (
          refine wpTl_go rfl (fun K hK => ?_)
          go_simp
          refine hK _ _ (by refine Ext.drew ?_; (repeat (refine Ext.setCell ?_ (.inl (by simp)) _)); exact Ext.refl _ _) ?_
          clear hK K
          try simp only [Act.put, List.setIfInBounds_toArray, List.set_cons_zero, List.set_cons_succ])
        refine wpTl_nil ?_
        go_wp2
        obtain ⟨W9, hW9⟩ : ∃ W9, World.drew ((((((((W7.setCell ⟨nb + 2, 0, none⟩ (.slice (some ⟨g6, 0, none⟩) n c6)).setCell ⟨nb + 2, 1, none⟩ (.int .i64 ((m : Int) + 1))).setCell ⟨nb + 3, 0, none⟩ (.slice (some ⟨sg4, 0, none⟩) D.n sc4)).setCell ⟨nb + 3, 1, none⟩ (.slice (some ⟨tg4, 0, none⟩) D.n tc4)).setCell ⟨nb + 3, 2, none⟩ (.slice wo4 D.W.length wc4)).setCell ⟨nb + 4, 0, none⟩ (.int .i64 1)).setCell ⟨nb + 4, 1, none⟩ (.int .i64 a)).setCell ⟨nb + 4, 2, none⟩ (.int .u64 x')) = W9 := ⟨_, rfl⟩
        have hret := H7.out.1.ret (.slice (some ⟨g6, 0, none⟩) n c6) (.int .i64 ((m : Int) + 1)) (.slice (some ⟨sg4, 0, none⟩) D.n sc4) (.slice (some ⟨tg4, 0, none⟩) D.n tc4) (.slice wo4 D.W.length wc4) (.int .i64 1) (.int .i64 a) (.int .u64 x') W9 hW9
        rw [hW9]
        clear hW9
        refine bodyPost_ret (results_ccct Try.results96 _ _ (nb + 2) (nb + 3) (nb + 4) _ _ _ #[.slice (some ⟨g6, 0, none⟩) n c6, .int .i64 ((m : Int) + 1)] #[.slice (some ⟨sg4, 0, none⟩) D.n sc4, .slice (some ⟨tg4, 0, none⟩) D.n tc4, .slice wo4 D.W.length wc4] #[.int .i64 1, .int .i64 a, .int .u64 x'] _ _ _ _ _ _ (.int .i64 0) rfl rfl rfl rfl hret.1 hret.2.1 hret.2.2.1 Try.underlying96 rfl (by kernel_rfl) Try.underlying33 rfl (by kernel_rfl) Try.underlying82 rfl (by kernel_rfl)) rfl ?_
        rw [HFS.out]
        have hRW : RefAt W7 (.agg #[.slice (some ⟨sg4, 0, none⟩) D.n sc4, .slice (some ⟨tg4, 0, none⟩) D.n tc4, .slice wo4 D.W.length wc4]) D := by
          refine H6.out.2.2.2.1.ext H7.out.2.2.2.2 ?_ ?_
          all_goals
            intro g cur hg hm
            simp at hm
            subst hm
            rw [H6.out.2.2.2.2.1] at hg
            simp at hg
        refine ⟨_, _, rfl, hret.2.2.2.1, ⟨some ⟨g6, 0, none⟩, c6, ?_, ?_⟩, NoT.three H7.out.1 hRW hret.2.2.2.2⟩
        · dsimp only
          rw [show (dn ++ [(⟨1, a, x'⟩ : Tch)] ++ r).length = n by rw [← HA.out.2.2.1, ← HA.out.2.1]; simp, show (dn ++ [(⟨1, a, x'⟩ : Tch)]).length = m + 1 by rw [← HA.out.2.2.2.1]; simp]
          rfl
        · dsimp only
          have h7 := H7.out.2.2.2.1
          rw [← HA.out.2.1, ← HA.out.2.2.2.1, set_mid] at h7
          refine h7.extB hret.2.2.2.2 ?_
          have := H6.out.2.2.2.2.2.2
          have := H5.out.1.lt
          simp
          omega
      · have HFS := Lib.hid (fstep_bad (r := r) (dn := dn) HRT.out.1 (show (playOne D ⟨1, a, x⟩).2 ≠ 0 from hl0))
        rw [show (playOne D ⟨1, a, x⟩).2 = (D.load a).2 from rfl] at HFS
        obtain ⟨no, hno⟩ : ∃ no, (D.load a).2 = no := ⟨_, rfl⟩
        rw [hno] at HLD HFS hl0
        have hne : (no != 0) = true := by simpa using hl0
        clear hl0 hno
        go_wp2_with fail
        refine HLD.out.mono ?_
        rintro e w2 ⟨rfl, hE2⟩
        have H2 := Lib.hid (H1.out.1.ext0 hE2)
        clear hE2 k0 k1 q0 q1 q2 t0 t1 t2
        obtain ⟨k0, k1⟩ := pair' H2.out.b0
        obtain ⟨q0, q1, q2⟩ := three H2.out.b1
        go_upto_region 7 with fail
        have HK : Hid (∀ W', Ext [nb + 2, nb + 3, nb + 4] w2 W' → W'.cell? ⟨nb, 0, none⟩ = some (.slice (some ⟨b, off, none⟩) n cap) ∧ W'.cell? ⟨nb, 1, none⟩ = some (.int .i64 m) ∧ W'.cell? ⟨nb + 1, 0, none⟩ = some (.slice (some ⟨sg, 0, none⟩) D.n sc) ∧ W'.cell? ⟨nb + 1, 1, none⟩ = some (.slice (some ⟨tg, 0, none⟩) D.n tc) ∧ W'.cell? ⟨nb + 1, 2, none⟩ = some (.slice wo D.W.length wc)) := by
          intro W' hE
          exact ⟨hE.cell k0 (by simp), hE.cell k1 (by simp), hE.cell q0 (by simp), hE.cell q1 (by simp), hE.cell q2 (by simp)⟩
        refine wp_region_hd (S := Ext [nb + 2, nb + 3, nb + 4] w2) 4 (by kernel_rfl) (by kernel_rfl) (fun _ d _ _ _ h => by cases d <;> exact h) (Ext.refl _ _).drew ?_
        simp only [List.take_succ_cons, List.take_zero, List.drop_succ_cons, List.drop_zero]
        repeat (first
          | (refine wpHd_yes ?_ (by rfl) (fun w hSw => ?_) ?_
             rotate_left
             · (obtain ⟨r0, r1, r2, r3, r4⟩ := HK.out _ hSw; clear hSw; go_simp; first | exact ⟨rfl, rfl⟩ | exact rfl)
             simp only [Act.put, List.setIfInBounds_toArray, List.set_cons_zero, List.set_cons_succ]))
        refine wpHd_nil ?_
        obtain ⟨z0, z1⟩ := pair' H2.out.b2
        obtain ⟨z2, z3, z4⟩ := three H2.out.b3
        obtain ⟨z5, z6, z7⟩ := three H2.out.b4
        have f0 := free_of H2.out.b2 0
        have f1 := free_of H2.out.b2 1
        have f2 := free_of H2.out.b3 0
        have f3 := free_of H2.out.b3 1
        have f4 := free_of H2.out.b3 2
        have f5 := free_of H2.out.b4 0
        have f6 := free_of H2.out.b4 1
        have f7 := free_of H2.out.b4 2
        iterate 4 (
          refine wpTl_go rfl (fun K hK => ?_)
          go_simp
          refine hK _ _ (by refine Ext.drew ?_; (repeat (refine Ext.setCell ?_ (.inl (by simp)) _)); exact Ext.refl _ _) ?_
          clear hK K
          try simp only [Act.put, List.setIfInBounds_toArray, List.set_cons_zero, List.set_cons_succ])
        refine wpTl_nil ?_
        go_wp2
        obtain ⟨W9, hW9⟩ : ∃ W9, World.drew ((((((((w2.setCell ⟨nb + 2, 0, none⟩ (.slice (some ⟨b, off, none⟩) n cap)).setCell ⟨nb + 2, 1, none⟩ (.int .i64 m)).setCell ⟨nb + 3, 0, none⟩ (.slice (some ⟨sg, 0, none⟩) D.n sc)).setCell ⟨nb + 3, 1, none⟩ (.slice (some ⟨tg, 0, none⟩) D.n tc)).setCell ⟨nb + 3, 2, none⟩ (.slice wo D.W.length wc)).setCell ⟨nb + 4, 0, none⟩ (.int .i64 0)).setCell ⟨nb + 4, 1, none⟩ (.int .i64 0)).setCell ⟨nb + 4, 2, none⟩ (.int .u64 0)) = W9 := ⟨_, rfl⟩
        have hret := H2.out.ret (.slice (some ⟨b, off, none⟩) n cap) (.int .i64 m) (.slice (some ⟨sg, 0, none⟩) D.n sc) (.slice (some ⟨tg, 0, none⟩) D.n tc) (.slice wo D.W.length wc) (.int .i64 0) (.int .i64 0) (.int .u64 0) W9 hW9
        rw [hW9]
        clear hW9
        refine bodyPost_ret (results_ccct Try.results96 _ _ (nb + 2) (nb + 3) (nb + 4) _ _ _ #[.slice (some ⟨b, off, none⟩) n cap, .int .i64 m] #[.slice (some ⟨sg, 0, none⟩) D.n sc, .slice (some ⟨tg, 0, none⟩) D.n tc, .slice wo D.W.length wc] #[.int .i64 0, .int .i64 0, .int .u64 0] _ _ _ _ _ _ (.int .i64 no) rfl rfl rfl rfl hret.1 hret.2.1 hret.2.2.1 Try.underlying96 rfl (by kernel_rfl) Try.underlying33 rfl (by kernel_rfl) Try.underlying82 rfl (by kernel_rfl)) rfl ?_
        rw [HFS.out]
        exact ⟨_, _, rfl, hret.2.2.2.1, ⟨some ⟨b, off, none⟩, cap, by dsimp only; rw [HA.out.2.1, HA.out.2.2.1, HA.out.2.2.2.1], by dsimp only; rw [HA.out.2.1]; exact HA.out.1.ext0 hret.2.2.2.1⟩, HRU.out.ext0 hret.2.2.2.1⟩
    · have hk1' : (k == (1 : Int)) = false := by simpa using hk1
      have HFO := Lib.hid (fun h0 => fstep_ok (r := r) (dn := dn) (D := D) (t' := ⟨k, a, x⟩) HRT.out.1 h0 (by unfold stepT; rw [if_neg hk1]))
      have HFB := Lib.hid (fstep_bad (r := r) (dn := dn) (D := D) HRT.out.1)
      have HP1 : Hid (playOne D ⟨k, a, x⟩ = playOne D ⟨k, a, x⟩) := rfl
      have H3 := Lib.hid (And.intro H1.out.1 H1.out.2.1)
      clear hk1 t0 t1 t2
      obtain ⟨t0, t1, t2⟩ := three H1.out.2.1
      go_upto_region 9 with fail
      clear hk1' t0 t1 t2 k0 k1 q0 q1 q2
      obtain ⟨k0, k1⟩ := pair' H3.out.1.b0
      obtain ⟨q0, q1, q2⟩ := three H3.out.1.b1
      obtain ⟨t0, t1, t2⟩ := three H3.out.2
      have HOC := Lib.hid (rf_One _ D ⟨k, a, x⟩ W1 (HRU.out.ext0 H3.out.1.ext) HN.out (HRT.out.2.1))
      obtain ⟨R, hR⟩ : ∃ R, playOne D ⟨k, a, x⟩ = R := ⟨_, rfl⟩
      rw [hR] at HOC HFO HFB
      clear hR HP1
      go_wp2_with fail
      refine HOC.out.mono ?_
      rintro e w4 ⟨v4, rfl, hE4, hR4⟩
      have hR4' := hR4
      obtain ⟨sg4, sc4, tg4, tc4, wo4, wc4, rfl, _, _, _⟩ := hR4'
      obtain ⟨pb, hpb⟩ : ∃ pb, w4.heap.size = pb := ⟨_, rfl⟩
      obtain ⟨W5, hw5⟩ : ∃ W5, w4.alloc (.cells #[.slice (some ⟨sg4, 0, none⟩) R.1.n sc4, .slice (some ⟨tg4, 0, none⟩) R.1.n tc4, .slice wo4 R.1.W.length wc4] 33) = W5 := ⟨_, rfl⟩
      have hE5 : Ext [] w4 W5 := by rw [← hw5]; exact (Ext.refl _ _).alloc _
      have hb5 : W5.heap[pb]? = some (.cells #[.slice (some ⟨sg4, 0, none⟩) R.1.n sc4, .slice (some ⟨tg4, 0, none⟩) R.1.n tc4, .slice wo4 R.1.W.length wc4] 33 (0, 0)) := by rw [← hw5, ← hpb]; exact World.alloc_heap_new _ _
      have H5 := Lib.hid (And.intro (H3.out.1.ext0 (hE4.trans hE5)) (And.intro hb5 (And.intro ((hE4.trans hE5).at H3.out.2 (by simp)) (And.intro (hR4.ext0 hE5) (show nb + 5 ≤ pb by have := H3.out.1.lt; have := hE4.size; omega)))))
      clear hE4 hE5 hb5 hR4 k0 k1 q0 q1 q2 t0 t1 t2
      obtain ⟨k0, k1⟩ := pair' H5.out.1.b0
      obtain ⟨q0, q1, q2⟩ := three H5.out.1.b1
      by_cases hr0 : R.2 = 0
      · have HFS := Lib.hid (HFO.out hr0)
        clear HFO HFB
        rw [hr0]
        clear hr0
        obtain ⟨i0, hi, hz0, hz1, hz2⟩ := info_parts infoTch
        have hI1 := Lib.hid hi
        have hI2 := Lib.hid hz0
        have hI3 := Lib.hid hz1
        have hI4 := Lib.hid hz2
        clear hi hz0 hz1 hz2
        go_wp2_with (at_builtin; (try rw [hw5]); (try rw [hpb]); refine wpList_append_any rfl _ _ _ rfl W5.heap.size 82 i0 _ 3 24 Try.underlying75 hI1.out hI2.out hI3.out hI4.out rfl (by omega) (.slice none 0 0) 0 [] rfl ?c4 (some ⟨b, off, none⟩) n cap (rowC (tR A) n) rfl ?c0 ?c1 ?c2 ?c3 ?_)
        case c4 => exact World.ownsRow_nil _ _ _ _
        case c0 =>
          have hs := (HA.out.1.src).ext (k := []) H5.out.1.ext (fun _ _ => by simp)
          rw [HA.out.2.2.1] at hs
          exact hs
        case c1 => have := HA.out.2.2.2.2; unfold maxLen; omega
        case c2 => have := HA.out.2.2.2.2; omega
        case c3 => exact Nat.le_refl _
        intro v6 w6 ho6 hE6 _
        have hX6 : Ext [] W5 w6 := hE6
        have hT6 : TcOwn w6 W5.heap.size v6 A := by
          unfold TcOwn
          rw [HA.out.2.2.1]
          simpa using ho6
        obtain ⟨g6, c6, rfl, hcur, hTc⟩ := hT6.box (N := N) (by have := HRT.out.2.2.1; omega)
        rw [HA.out.2.2.1]
        have hg6 : W5.heap.size ≤ g6 := hcur.2
        obtain ⟨cur, hcur⟩ := hcur.1
        have H6 := Lib.hid (And.intro (H5.out.1.ext0 hX6) (And.intro (hX6.at H5.out.2.1 (by simp)) (And.intro (hX6.at H5.out.2.2.1 (by simp)) (And.intro (H5.out.2.2.2.1.ext0 hX6) (And.intro hcur (And.intro hTc hg6))))))
        have f6 := fun j => free_of hcur j
        have j0 := hTc.cells HRT.out.2.2.1
        obtain ⟨_, _, hjj, y0, y1, y2⟩ := j0
        simp at hjj
        obtain ⟨rfl, rfl⟩ := hjj
        rw [Nat.zero_add] at y0 y1 y2
        have hi0 : (0 : Int) ≤ (m : Int) := by omega
        have hi1 : (m : Int) < (n : Int) := by have := HRT.out.2.2.1; rw [HA.out.2.2.1] at this; omega
        have e0 := f6 (m * 3)
        have e1 := f6 (m * 3 + 1)
        have e2 := f6 (m * 3 + 2)
        clear hw5 hpb ho6 hE6 hX6 hT6 hTc hcur hg6 f6 k0 k1 q0 q1 q2
        obtain ⟨k0, k1⟩ := pair' H6.out.1.b0
        obtain ⟨q0, q1, q2⟩ := three H6.out.1.b1
        obtain ⟨t0, t1, t2⟩ := three H6.out.2.2.1
        go_upto_region 14 with fail
        obtain ⟨W7, hw7⟩ : ∃ W7, ((w6.setCell ⟨g6, m * 3, none⟩ (.int .i64 k)).setCell ⟨g6, m * 3 + 1, none⟩ (.int .i64 a)).setCell ⟨g6, m * 3 + 2, none⟩ (.int .u64 x) = W7 := ⟨_, rfl⟩
        have hS7 := H6.out.2.2.2.2.2.1.set3 H6.out.2.2.2.2.1 HRT.out.2.2.1 ⟨k, a, x⟩ W7 hw7.symm
        try rw [hw7]
        clear hw7 y0 y1 y2 e0 e1 e2 hi0 hi1 k0 k1 q0 q1 q2 t0 t1 t2
        have hne : ∀ q, q ∈ [g6] → nb + 5 ≤ q := fun q hq => by
          simp at hq
          have := H6.out.2.2.2.2.2.2
          have := H5.out.1.lt
          omega
        have hpg : pb ∉ [g6] := by
          have := H6.out.2.2.2.2.2.2
          have := lt_of_block H5.out.2.1
          simp
          omega
        have htg : tb ∉ [g6] := by
          have := H6.out.2.2.2.2.2.2
          have := lt_of_block H5.out.2.2.1
          simp
          omega
        have H7 := Lib.hid (And.intro (H6.out.1.ext1 hS7.2 hne) (And.intro (hS7.2.at H6.out.2.1 hpg) (And.intro (hS7.2.at H6.out.2.2.1 htg) hS7)))
        clear hS7 hne hpg htg
        obtain ⟨k0, k1⟩ := pair' H7.out.1.b0
        obtain ⟨d0, d1, d2⟩ := three H7.out.2.1
        obtain ⟨t0, t1, t2⟩ := three H7.out.2.2.1
        have hwm : IntKind.i64.wrap ((m : Int) + 1) = (m : Int) + 1 := by
          rw [IntKind.wrap_i64]
          have := HA.out.2.2.2.2
          have := HRT.out.2.2.1
          rw [HA.out.2.2.1] at this
          omega
        have HK : Hid (∀ W', Ext [nb + 2, nb + 3, nb + 4] W7 W' → W'.cell? ⟨nb, 1, none⟩ = some (.int .i64 m) ∧ W'.cell? ⟨pb, 0, none⟩ = some (.slice (some ⟨sg4, 0, none⟩) R.1.n sc4) ∧ W'.cell? ⟨pb, 1, none⟩ = some (.slice (some ⟨tg4, 0, none⟩) R.1.n tc4) ∧ W'.cell? ⟨pb, 2, none⟩ = some (.slice wo4 R.1.W.length wc4) ∧ W'.cell? ⟨tb, 0, none⟩ = some (.int .i64 k) ∧ W'.cell? ⟨tb, 1, none⟩ = some (.int .i64 a) ∧ W'.cell? ⟨tb, 2, none⟩ = some (.int .u64 x)) := by
          intro W' hE
          exact ⟨hE.cell k1 (by simp), hE.cell d0 (by have := H5.out.2.2.2.2; simp; omega), hE.cell d1 (by have := H5.out.2.2.2.2; simp; omega), hE.cell d2 (by have := H5.out.2.2.2.2; simp; omega), hE.cell t0 (by have := H1.out.2.2; simp; omega), hE.cell t1 (by have := H1.out.2.2; simp; omega), hE.cell t2 (by have := H1.out.2.2; simp; omega)⟩
        refine wp_region_hd (S := Ext [nb + 2, nb + 3, nb + 4] W7) 7 (by kernel_rfl) (by kernel_rfl) (fun _ d _ _ _ h => by cases d <;> exact h) (Ext.refl _ _).drew ?_
        simp only [List.take_succ_cons, List.take_zero, List.drop_succ_cons, List.drop_zero]
        repeat (first
          | (refine wpHd_yes ?_ (by rfl) (fun w hSw => ?_) ?_
             rotate_left
             · (obtain ⟨r0, r1, r2, r3, r4, r5, r6⟩ := HK.out _ hSw; clear hSw; go_simp; first | exact ⟨rfl, rfl⟩ | exact rfl)
             simp only [Act.put, List.setIfInBounds_toArray, List.set_cons_zero, List.set_cons_succ]))
        refine wpHd_nil ?_
        obtain ⟨z0, z1⟩ := pair' H7.out.1.b2
        obtain ⟨z2, z3, z4⟩ := three H7.out.1.b3
        obtain ⟨z5, z6, z7⟩ := three H7.out.1.b4
        have f0 := free_of H7.out.1.b2 0
        have f1 := free_of H7.out.1.b2 1
        have f2 := free_of H7.out.1.b3 0
        have f3 := free_of H7.out.1.b3 1
        have f4 := free_of H7.out.1.b3 2
        have f5 := free_of H7.out.1.b4 0
        have f6 := free_of H7.out.1.b4 1
        have f7 := free_of H7.out.1.b4 2
        iterate 4 (
          refine wpTl_go rfl (fun K hK => ?_)
          go_simp
          refine hK _ _ (by refine Ext.drew ?_; (repeat (refine Ext.setCell ?_ (.inl (by simp)) _)); exact Ext.refl _ _) ?_
          clear hK K
          try simp only [Act.put, List.setIfInBounds_toArray, List.set_cons_zero, List.set_cons_succ])
        refine wpTl_nil ?_
        go_wp2
        obtain ⟨W9, hW9⟩ : ∃ W9, World.drew ((((((((W7.setCell ⟨nb + 2, 0, none⟩ (.slice (some ⟨g6, 0, none⟩) n c6)).setCell ⟨nb + 2, 1, none⟩ (.int .i64 ((m : Int) + 1))).setCell ⟨nb + 3, 0, none⟩ (.slice (some ⟨sg4, 0, none⟩) R.1.n sc4)).setCell ⟨nb + 3, 1, none⟩ (.slice (some ⟨tg4, 0, none⟩) R.1.n tc4)).setCell ⟨nb + 3, 2, none⟩ (.slice wo4 R.1.W.length wc4)).setCell ⟨nb + 4, 0, none⟩ (.int .i64 k)).setCell ⟨nb + 4, 1, none⟩ (.int .i64 a)).setCell ⟨nb + 4, 2, none⟩ (.int .u64 x)) = W9 := ⟨_, rfl⟩
        have hret := H7.out.1.ret (.slice (some ⟨g6, 0, none⟩) n c6) (.int .i64 ((m : Int) + 1)) (.slice (some ⟨sg4, 0, none⟩) R.1.n sc4) (.slice (some ⟨tg4, 0, none⟩) R.1.n tc4) (.slice wo4 R.1.W.length wc4) (.int .i64 k) (.int .i64 a) (.int .u64 x) W9 hW9
        rw [hW9]
        clear hW9
        refine bodyPost_ret (results_ccct Try.results96 _ _ (nb + 2) (nb + 3) (nb + 4) _ _ _ #[.slice (some ⟨g6, 0, none⟩) n c6, .int .i64 ((m : Int) + 1)] #[.slice (some ⟨sg4, 0, none⟩) R.1.n sc4, .slice (some ⟨tg4, 0, none⟩) R.1.n tc4, .slice wo4 R.1.W.length wc4] #[.int .i64 k, .int .i64 a, .int .u64 x] _ _ _ _ _ _ (.int .i64 0) rfl rfl rfl rfl hret.1 hret.2.1 hret.2.2.1 Try.underlying96 rfl (by kernel_rfl) Try.underlying33 rfl (by kernel_rfl) Try.underlying82 rfl (by kernel_rfl)) rfl ?_
        rw [HFS.out]
        have hRW : RefAt W7 (.agg #[.slice (some ⟨sg4, 0, none⟩) R.1.n sc4, .slice (some ⟨tg4, 0, none⟩) R.1.n tc4, .slice wo4 R.1.W.length wc4]) R.1 := by
          refine H6.out.2.2.2.1.ext H7.out.2.2.2.2 ?_ ?_
          all_goals
            intro g cur hg hm
            simp at hm
            subst hm
            rw [H6.out.2.2.2.2.1] at hg
            simp at hg
        refine ⟨_, _, rfl, hret.2.2.2.1, ⟨some ⟨g6, 0, none⟩, c6, ?_, ?_⟩, NoT.three H7.out.1 hRW hret.2.2.2.2⟩
        · dsimp only
          rw [show (dn ++ [(⟨k, a, x⟩ : Tch)] ++ r).length = n by rw [← HA.out.2.2.1, ← HA.out.2.1]; simp, show (dn ++ [(⟨k, a, x⟩ : Tch)]).length = m + 1 by rw [← HA.out.2.2.2.1]; simp]
          rfl
        · dsimp only
          have h7 := H7.out.2.2.2.1
          rw [← HA.out.2.1, ← HA.out.2.2.2.1, set_mid] at h7
          refine h7.extB hret.2.2.2.2 ?_
          have := H6.out.2.2.2.2.2.2
          have := H5.out.1.lt
          simp
          omega
      · have HFS := Lib.hid (HFB.out hr0)
        obtain ⟨no, hno⟩ : ∃ no, R.2 = no := ⟨_, rfl⟩
        rw [hno] at HFS hr0 ⊢
        have hne : (no != 0) = true := by simpa using hr0
        clear hr0 hno HFO HFB
        go_upto_region 11 with fail
        try rw [hw5]
        try rw [hpb]
        clear hw5 hpb
        have HK : Hid (∀ W', Ext [nb + 2, nb + 3, nb + 4] W5 W' → W'.cell? ⟨nb, 0, none⟩ = some (.slice (some ⟨b, off, none⟩) n cap) ∧ W'.cell? ⟨nb, 1, none⟩ = some (.int .i64 m) ∧ W'.cell? ⟨nb + 1, 0, none⟩ = some (.slice (some ⟨sg, 0, none⟩) D.n sc) ∧ W'.cell? ⟨nb + 1, 1, none⟩ = some (.slice (some ⟨tg, 0, none⟩) D.n tc) ∧ W'.cell? ⟨nb + 1, 2, none⟩ = some (.slice wo D.W.length wc)) := by
          intro W' hE
          exact ⟨hE.cell k0 (by simp), hE.cell k1 (by simp), hE.cell q0 (by simp), hE.cell q1 (by simp), hE.cell q2 (by simp)⟩
        refine wp_region_hd (S := Ext [nb + 2, nb + 3, nb + 4] W5) 4 (by kernel_rfl) (by kernel_rfl) (fun _ d _ _ _ h => by cases d <;> exact h) (Ext.refl _ _).drew ?_
        simp only [List.take_succ_cons, List.take_zero, List.drop_succ_cons, List.drop_zero]
        repeat (first
          | (refine wpHd_yes ?_ (by rfl) (fun w hSw => ?_) ?_
             rotate_left
             · (obtain ⟨r0, r1, r2, r3, r4⟩ := HK.out _ hSw; clear hSw; go_simp; first | exact ⟨rfl, rfl⟩ | exact rfl)
             simp only [Act.put, List.setIfInBounds_toArray, List.set_cons_zero, List.set_cons_succ]))
        refine wpHd_nil ?_
        obtain ⟨z0, z1⟩ := pair' H5.out.1.b2
        obtain ⟨z2, z3, z4⟩ := three H5.out.1.b3
        obtain ⟨z5, z6, z7⟩ := three H5.out.1.b4
        have f0 := free_of H5.out.1.b2 0
        have f1 := free_of H5.out.1.b2 1
        have f2 := free_of H5.out.1.b3 0
        have f3 := free_of H5.out.1.b3 1
        have f4 := free_of H5.out.1.b3 2
        have f5 := free_of H5.out.1.b4 0
        have f6 := free_of H5.out.1.b4 1
        have f7 := free_of H5.out.1.b4 2
        iterate 4 (
          refine wpTl_go rfl (fun K hK => ?_)
          go_simp
          refine hK _ _ (by refine Ext.drew ?_; (repeat (refine Ext.setCell ?_ (.inl (by simp)) _)); exact Ext.refl _ _) ?_
          clear hK K
          try simp only [Act.put, List.setIfInBounds_toArray, List.set_cons_zero, List.set_cons_succ])
        refine wpTl_nil ?_
        go_wp2
        obtain ⟨W9, hW9⟩ : ∃ W9, World.drew ((((((((W5.setCell ⟨nb + 2, 0, none⟩ (.slice (some ⟨b, off, none⟩) n cap)).setCell ⟨nb + 2, 1, none⟩ (.int .i64 m)).setCell ⟨nb + 3, 0, none⟩ (.slice (some ⟨sg, 0, none⟩) D.n sc)).setCell ⟨nb + 3, 1, none⟩ (.slice (some ⟨tg, 0, none⟩) D.n tc)).setCell ⟨nb + 3, 2, none⟩ (.slice wo D.W.length wc)).setCell ⟨nb + 4, 0, none⟩ (.int .i64 0)).setCell ⟨nb + 4, 1, none⟩ (.int .i64 0)).setCell ⟨nb + 4, 2, none⟩ (.int .u64 0)) = W9 := ⟨_, rfl⟩
        have hret := H5.out.1.ret (.slice (some ⟨b, off, none⟩) n cap) (.int .i64 m) (.slice (some ⟨sg, 0, none⟩) D.n sc) (.slice (some ⟨tg, 0, none⟩) D.n tc) (.slice wo D.W.length wc) (.int .i64 0) (.int .i64 0) (.int .u64 0) W9 hW9
        rw [hW9]
        clear hW9
        refine bodyPost_ret (results_ccct Try.results96 _ _ (nb + 2) (nb + 3) (nb + 4) _ _ _ #[.slice (some ⟨b, off, none⟩) n cap, .int .i64 m] #[.slice (some ⟨sg, 0, none⟩) D.n sc, .slice (some ⟨tg, 0, none⟩) D.n tc, .slice wo D.W.length wc] #[.int .i64 0, .int .i64 0, .int .u64 0] _ _ _ _ _ _ (.int .i64 no) rfl rfl rfl rfl hret.1 hret.2.1 hret.2.2.1 Try.underlying96 rfl (by kernel_rfl) Try.underlying33 rfl (by kernel_rfl) Try.underlying82 rfl (by kernel_rfl)) rfl ?_
        rw [HFS.out]
        exact ⟨_, _, rfl, hret.2.2.2.1, ⟨some ⟨b, off, none⟩, cap, by dsimp only; rw [HA.out.2.1, HA.out.2.2.1, HA.out.2.2.2.1], by dsimp only; rw [HA.out.2.1]; exact HA.out.1.ext0 hret.2.2.2.1⟩, HRU.out.ext0 hret.2.2.2.1⟩
end Go.Proofs.Ytfojmjkcjdehaaa
namespace Go.Proofs.Ytfojmjkcjdehaaa
open Go Go.RowKit Go.Shelf
attribute [local go_sem] Oper.semAt_some

set_option maxRecDepth 100000 in
set_option maxHeartbeats 4000000 in
theorem rf_fThen (N : Nat) (v : Value) (L dn : List Tch) (mo : Option Addr) (mc : Nat) (M : List Tch) (w : World) (hv : RFib w N v L dn) (hM : TcAt w N mo M) (l1 : (dn ++ L).length ≤ 1000000) (l2 : M.length ≤ 1000000) (hN : N ≤ w.heap.size) :
    Calls Try.prog 97 #[v, .slice mo M.length mc] w fun e w' => ∃ v', e = .returned (.tuple #[v', .int .i64 (thenE L dn M)]) ∧ Ext [] w w' ∧ RFib w' N v' (if thenE L dn M = 0 then L ++ M else L) dn := by
  have HV := Lib.hid hv
  have HNN := Lib.hid hN
  obtain ⟨ao, cap, rfl, hA⟩ := hv
  obtain ⟨A, hAA⟩ : ∃ A, dn ++ L = A := ⟨_, rfl⟩
  obtain ⟨n, hnn⟩ : ∃ n, A.length = n := ⟨_, rfl⟩
  obtain ⟨k, hkk⟩ : ∃ k, dn.length = k := ⟨_, rfl⟩
  obtain ⟨m, hm⟩ : ∃ m, M.length = m := ⟨_, rfl⟩
  have HTE : Hid (thenE L dn M = ask2 (tcheck M) (if decide ((4096 : Int) < (n : Int) + (m : Int)) = true then 3 else 0)) := by
    unfold Hid thenE
    rw [← hnn, ← hm, ← hAA, List.length_append, Int.natCast_add]
  rw [hAA] at hA l1 HV ⊢
  rw [hnn] at l1 HV ⊢
  rw [hkk] at HV ⊢
  obtain ⟨nb, hnb⟩ : ∃ nb, w.heap.size = nb := ⟨_, rfl⟩
  obtain ⟨W0, hw0⟩ : ∃ W0, (w.alloc (.cells #[.slice ao n cap, .int .i64 k] 96)).alloc (.cells #[.slice none 0 0, .int .i64 0] 96) = W0 := ⟨_, rfl⟩
  have hE0 : Ext [] w W0 := by rw [← hw0]; exact ((Ext.refl [] w).alloc _).alloc _
  obtain ⟨hb1, hb2, hs0⟩ := al2_heap (w := w) #[.slice ao n cap, .int .i64 k] #[.slice none 0 0, .int .i64 0] 96 96
  rw [hw0, hnb] at hb1 hb2
  have H0 := Lib.hid (And.intro hE0 (And.intro hb1 (And.intro hb2 hnb)))
  have HC := Lib.hid (ts_Check N mo mc M W0 (hM.ext0 hE0) (by omega))
  have HM := Lib.hid (And.intro hM hm)
  have HA := Lib.hid (And.intro hA (And.intro hAA (And.intro hnn hkk)))
  have HL : Hid (n ≤ 1000000 ∧ m ≤ 1000000) := ⟨l1, by omega⟩
  have hwr : IntKind.i64.wrap ((n : Int) + (m : Int)) = (n : Int) + (m : Int) := by rw [IntKind.wrap_i64]; omega
  rw [hm] at HC ⊢
  obtain ⟨k0, k1⟩ := pair' hb1
  clear hE0 hb1 hb2 hs0 hM hm hA hAA hnn hkk l1 l2
  obtain ⟨tc, htc⟩ : ∃ tc, tcheck M = tc := ⟨_, rfl⟩
  obtain ⟨cc, hcc⟩ : ∃ cc, decide ((4096 : Int) < (n : Int) + (m : Int)) = cc := ⟨_, rfl⟩
  rw [htc, hcc] at HTE
  rw [htc] at HC
  clear htc
  by_cases h0 : tc = 0
  · subst h0
    rw [show ask2 0 (if cc = true then (3 : Int) else 0) = (if cc = true then 3 else 0) from if_pos rfl] at HTE
    cases cc with
    | true =>
      rw [show (if true = true then (3 : Int) else 0) = 3 from rfl] at HTE
      rw [HTE.out]
      go_enter Try.func97, Try.ntmps97
      go_wp2_with fail
      try rw [hw0]
      refine HC.out.mono ?_
      rintro e w1 ⟨rfl, hE1⟩
      have H1 := Lib.hid hE1
      have k0 := hE1.cell k0 (by simp)
      have k1 := hE1.cell k1 (by simp)
      obtain ⟨z0, z1⟩ := pair' (hE1.at H0.out.2.2.1 (by simp))
      have f0 := free_of (hE1.at H0.out.2.2.1 (by simp)) 0
      have f1 := free_of (hE1.at H0.out.2.2.1 (by simp)) 1
      clear hE1 hw0
      go_wp2
      have hE3 : Ext [] w ((w1.setCell ⟨nb + 1, 0, none⟩ (.slice ao n cap)).setCell ⟨nb + 1, 1, none⟩ (.int .i64 k)) := ((H0.out.1.trans H1.out).setCell (p := ⟨nb + 1, 0, none⟩) (.inr (by have := H0.out.2.2.2; show _ ≤ nb + 1; omega)) _).setCell (p := ⟨nb + 1, 1, none⟩) (.inr (by have := H0.out.2.2.2; show _ ≤ nb + 1; omega)) _
      refine bodyPost_ret (results_ca Try.results97 _ _ (nb + 1) _ #[.slice ao n cap, .int .i64 k] _ _ _ rfl (pair_set1 (pair_set0 (H1.out.at H0.out.2.2.1 (by simp)))) rfl Try.underlying96 rfl (by kernel_rfl)) rfl ?_
      exact ⟨_, rfl, hE3, HV.out.ext0 hE3⟩
    | false =>
      rw [show (if false = true then (3 : Int) else 0) = 0 from rfl] at HTE
      rw [HTE.out, if_pos rfl]
      obtain ⟨i0, hi, hz0, hz1, hz2⟩ := info_parts infoTch
      have hI1 := Lib.hid hi
      have hI2 := Lib.hid hz0
      have hI3 := Lib.hid hz1
      have hI4 := Lib.hid hz2
      clear hi hz0 hz1 hz2
      go_enter Try.func97, Try.ntmps97
      go_wp2_with fail
      try rw [hw0]
      refine HC.out.mono ?_
      rintro e W1 ⟨rfl, hE1⟩
      have H1 := Lib.hid hE1
      have k0 := hE1.cell k0 (by simp)
      have k1 := hE1.cell k1 (by simp)
      clear hE1 hw0
      go_upto_region 6 with fail
      clear hwr hcc
      refine wp_region_p (hds [0, 1, 3, 5, 6] (tls [2, 4, 7, 8, 9] .done)) (Ext [nb + 1] W1) (by kernel_rfl) (by kernel_rfl) (fun _ d _ _ _ h => by cases d <;> exact h) (Ext.refl _ _).drew ?_
      repeat (first
        | (refine wpPl_hd ?_ rfl (by rfl) (fun w hSw => ?_) ?_
           rotate_left
           · (have q0 := hSw.cell k0 (by simp); have q1 := hSw.cell k1 (by simp); clear hSw; go_simp; first | exact ⟨rfl, rfl⟩ | exact rfl)
           simp only [Act.put, List.setIfInBounds_toArray, List.set_cons_zero, List.set_cons_succ]))
      refine wpPl_tl rfl (by rfl) (fun K hK => ?_)
      refine of_step (by rfl) (step_append_any (ops := #[]) (E := True) (by rfl) (.const (.slice none 0 0)) (.tmp 22) 75 (by rfl) W1.heap.size 82 i0 (.agg #[.int .i64 0, .int .i64 0, .int .u64 0]) 3 24 Try.underlying75 hI1.out hI2.out hI3.out hI4.out rfl (by omega) (.slice none 0 0) 0 [] (by rfl) (World.ownsRow_nil _ _ _ _) ao n cap (rowC (tR A) n) (by rfl) (by have hs := ((HA.out.1.ext0 (H0.out.1.trans H1.out)).src).ext (k := []) (Ext.refl [] W1).drew (fun _ _ => by simp); rw [HA.out.2.2.1] at hs; exact hs) ?_ ?_ ?_ ?_)
      · have := HL.out; unfold maxLen; omega
      · have := HL.out; omega
      · exact Nat.le_refl _
      intro v5 w5 ho5 hE5 hX5
      have hX : Ext [] W1 w5 := hX5 W1 (Ext.refl _ _).drew (Nat.le_refl _)
      have hT5 : TcOwn w5 W1.heap.size v5 A := by
        unfold TcOwn
        rw [HA.out.2.2.1]
        simpa using ho5
      obtain ⟨ao5, cap5, rfl, _, _, _⟩ := hT5.at (N := N)
      have HX5 := Lib.hid (And.intro hX hT5)
      rw [HA.out.2.2.1] at HX5 ⊢
      refine hK _ _ (fun _ => hX.wide) ?_
      clear hK K ho5 hE5 hX5 hX hT5
      try simp only [Act.put, List.setIfInBounds_toArray, List.set_cons_zero, List.set_cons_succ]
      refine wpPl_tl rfl (by rfl) (fun K hK => ?_)
      refine of_step (by rfl) (step_append_any (ops := #[]) (E := True) (by rfl) (.tmp 23) (.tmp 24) 75 (by rfl) W1.heap.size 82 i0 (.agg #[.int .i64 0, .int .i64 0, .int .u64 0]) 3 24 Try.underlying75 hI1.out hI2.out hI3.out hI4.out rfl (by omega) (.slice ao5 n cap5) A.length (rowC (tR A) A.length) (by rfl) (by have := HX5.out.2; unfold TcOwn at this; exact this) mo m mc (rowC (tR M) M.length) (by rfl) (by rw [← HM.out.2]; exact (HM.out.1.ext0 ((H0.out.1.trans H1.out).trans HX5.out.1)).src) ?_ ?_ ?_ ?_)
      · have := HL.out; have := HA.out.2.2.1; unfold maxLen; omega
      · have := HL.out; have := HA.out.2.2.1; omega
      · exact HX5.out.1.size
      intro v6 w6 ho6 hE6 hX6
      have hX : Ext [] W1 w6 := hX6 W1 HX5.out.1 (Nat.le_refl _)
      have hT6 : TcOwn w6 W1.heap.size v6 (A ++ M) := by
        unfold TcOwn
        rw [tR_append, List.length_append, HA.out.2.2.1, HM.out.2]
        rw [HA.out.2.2.1, HM.out.2] at ho6
        exact ho6
      obtain ⟨ao6, cap6, rfl, hT, _, _⟩ := hT6.at (N := N)
      obtain ⟨nm, hnm⟩ : ∃ nm, (A ++ M).length = nm := ⟨_, rfl⟩
      have HX6 := Lib.hid (And.intro hX (And.intro hT hnm))
      rw [hnm]
      refine hK _ _ (fun _ => hX.wide) ?_
      clear hK K ho6 hE6 hX6 hX hT6 hT hnm
      try simp only [Act.put, List.setIfInBounds_toArray, List.set_cons_zero, List.set_cons_succ]
      refine wpPl_tl rfl (by rfl) (fun K hK => ?_)
      go_simp
      refine hK _ _ (fun _ => HX6.out.1.wide) ?_
      clear hK K
      try simp only [Act.put, List.setIfInBounds_toArray, List.set_cons_zero, List.set_cons_succ]
      obtain ⟨z0, z1⟩ := pair' (HX6.out.1.at (H1.out.at H0.out.2.2.1 (by simp)) (by simp))
      have f0 := free_of (HX6.out.1.at (H1.out.at H0.out.2.2.1 (by simp)) (by simp)) 0
      have f1 := free_of (HX6.out.1.at (H1.out.at H0.out.2.2.1 (by simp)) (by simp)) 1
      refine wpPl_tl rfl (by rfl) (fun K hK => ?_)
      go_simp
      refine hK _ _ (fun _ => ?_) ?_
      · (repeat (refine Ext.setCell ?_ (.inl (by simp)) _))
        exact HX6.out.1.wide
      clear hK K
      try simp only [Act.put, List.setIfInBounds_toArray, List.set_cons_zero, List.set_cons_succ]
      refine wpPl_last rfl (by rfl) ?_
      go_simp
      go_wp2
      have hb6 := HX6.out.1.at (H1.out.at H0.out.2.2.1 (by simp)) (by simp)
      have hEw : Ext [nb + 1] w6 ((w6.setCell ⟨nb + 1, 0, none⟩ (.slice ao6 nm cap6)).setCell ⟨nb + 1, 1, none⟩ (.int .i64 k)) := ((Ext.refl [nb + 1] w6).setCell (p := ⟨nb + 1, 0, none⟩) (.inl (by simp)) _).setCell (p := ⟨nb + 1, 1, none⟩) (.inl (by simp)) _
      refine bodyPost_ret (results_ca Try.results97 _ _ (nb + 1) _ #[.slice ao6 nm cap6, .int .i64 k] _ _ _ rfl (pair_set1 (pair_set0 hb6)) rfl Try.underlying96 rfl (by kernel_rfl)) rfl ?_
      refine ⟨_, rfl, ((H0.out.1.trans H1.out).trans HX6.out.1).trans' hEw (fun q hq => .inr (by have := H0.out.2.2.2; simp at hq; omega)), ao6, cap6, ?_, ?_⟩
      · rw [← HX6.out.2.2, ← HA.out.2.1, ← HA.out.2.2.2, List.append_assoc]
      · have h6 := HX6.out.2.1
        rw [← HA.out.2.1, List.append_assoc] at h6
        refine h6.ext hEw (fun q hq => ?_)
        simp at hq
        subst hq
        exact .inr ⟨by have := HNN.out; have := H0.out.2.2.2; omega, fun cur hb => by rw [hb6] at hb; simp at hb⟩
  · have h3 : ask2 tc (if cc = true then (3 : Int) else 0) = tc := if_neg h0
    rw [h3] at HTE
    rw [HTE.out, if_neg h0]
    have hne : (tc != 0) = true := by simpa using h0
    clear h0 h3 hcc
    go_enter Try.func97, Try.ntmps97
    go_wp2_with fail
    try rw [hw0]
    refine HC.out.mono ?_
    rintro e w1 ⟨rfl, hE1⟩
    have H1 := Lib.hid hE1
    have k0 := hE1.cell k0 (by simp)
    have k1 := hE1.cell k1 (by simp)
    obtain ⟨z0, z1⟩ := pair' (hE1.at H0.out.2.2.1 (by simp))
    have f0 := free_of (hE1.at H0.out.2.2.1 (by simp)) 0
    have f1 := free_of (hE1.at H0.out.2.2.1 (by simp)) 1
    clear hE1 hw0
    go_wp2
    have hE3 : Ext [] w ((w1.setCell ⟨nb + 1, 0, none⟩ (.slice ao n cap)).setCell ⟨nb + 1, 1, none⟩ (.int .i64 k)) := ((H0.out.1.trans H1.out).setCell (p := ⟨nb + 1, 0, none⟩) (.inr (by have := H0.out.2.2.2; show _ ≤ nb + 1; omega)) _).setCell (p := ⟨nb + 1, 1, none⟩) (.inr (by have := H0.out.2.2.2; show _ ≤ nb + 1; omega)) _
    refine bodyPost_ret (results_ca Try.results97 _ _ (nb + 1) _ #[.slice ao n cap, .int .i64 k] _ _ _ rfl (pair_set1 (pair_set0 (H1.out.at H0.out.2.2.1 (by simp)))) rfl Try.underlying96 rfl (by kernel_rfl)) rfl ?_
    exact ⟨_, rfl, hE3, HV.out.ext0 hE3⟩
end Go.Proofs.Ytfojmjkcjdehaaa
