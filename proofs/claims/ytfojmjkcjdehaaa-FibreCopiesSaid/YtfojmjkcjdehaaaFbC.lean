/- Package fibre: Step, where a touch is done (printed by mkFb.py). -/
import Derived.Test.YtfojmjkcjdehaaaFbB
namespace Go.Proofs.Ytfojmjkcjdehaaa
open Go Go.RowKit Go.Shelf
attribute [local go_sem] Oper.semAt_some

/-- behind stores into a fibre -/
theorem DevAt.extF {w w' : World} {d lb sb f N : Nat} {D : Dv} {L dn : List Tch} (h : DevAt w d lb sb D) (hE : Ext [f] w w') (hf : FibAt w N f L dn) : DevAt w' d lb sb D := by
  obtain ⟨_, lo, lc, po, pc, hb, _⟩ := hf
  have key : ∀ (q : Nat) (c : Array Value) (e : TypeId) (g : Nat × Nat), w.heap[q]? = some (.cells c e g) → e ≠ 109 → q ∉ [f] := fun q c e g hq he hm => by
    simp at hm
    rw [hm, hb] at hq
    simp at hq
    exact he hq.2.1.symm
  have h' := h
  obtain ⟨⟨cl, cs', wv, h1, _⟩, ⟨c2, h2, _⟩, ⟨c3, h3, _⟩, _⟩ := h'
  exact h.ext hE (key _ _ _ _ h1 (by decide)) (key _ _ _ _ h2 (by decide)) (key _ _ _ _ h3 (by decide)) (fun g cur hg => key _ _ _ _ hg (by decide))
/-- the same -/
theorem DevAt.extFb {w w' : World} {d lb sb f : Nat} {D : Dv} {cs : Array Value} {fr : Nat × Nat} (h : DevAt w d lb sb D) (hE : Ext [f] w w') (hb : w.heap[f]? = some (.cells cs 109 fr)) : DevAt w' d lb sb D := by
  have key : ∀ (q : Nat) (c : Array Value) (e : TypeId) (g : Nat × Nat), w.heap[q]? = some (.cells c e g) → e ≠ 109 → q ∉ [f] := fun q c e g hq he hm => by
    simp at hm
    rw [hm, hb] at hq
    simp at hq
    exact he hq.2.1.symm
  have h' := h
  obtain ⟨⟨cl, cs', wv, h1, _⟩, ⟨c2, h2, _⟩, ⟨c3, h3, _⟩, _⟩ := h'
  exact h.ext hE (key _ _ _ _ h1 (by decide)) (key _ _ _ _ h2 (by decide)) (key _ _ _ _ h3 (by decide)) (fun g cur hg => key _ _ _ _ hg (by decide))
theorem setCell_same {w : World} {b o : Nat} {cs : Array Value} {e : TypeId} {f : Nat × Nat} {v : Value} (h : w.heap[b]? = some (.cells cs e f)) (hv : cs[o]? = some v) : w.setCell ⟨b, o, none⟩ v = w := by
  have hm : w.heap.modify b (fun x => match x with
      | .cells c elem frozen => .cells (if (none : Option Nat).isSome then c else c.setIfInBounds o v) elem frozen
      | o => o) = w.heap := by
    refine Array.ext_getElem? (fun i => ?_)
    rw [Array.getElem?_modify]
    by_cases hi : b = i
    · subst hi
      rw [if_pos rfl, h]
      have hs : cs.setIfInBounds o v = cs := by
        refine Array.ext_getElem? (fun j => ?_)
        rw [Array.getElem?_setIfInBounds]
        by_cases hj : o = j
        · subst hj
          have hlt := (Array.getElem?_eq_some_iff.1 hv).1
          rw [if_pos rfl, if_pos hlt, hv]
        · rw [if_neg hj]
      simp [hs]
    · rw [if_neg hi]
  exact congrArg (fun h => ({ w with heap := h } : World)) hm
theorem playE_zero {D : Dv} {t : Tch} (h : playE D [t] = 0) : playD D [t] = (playOne D t).1 ∧ (playOne D t).2 = 0 := by
  unfold playE at h
  unfold playD
  by_cases hc : tcheck [t] = 0
  · rw [if_pos hc] at h ⊢
    unfold playL at h ⊢
    split at h
    · rename_i h0
      rw [if_pos h0]
      exact ⟨rfl, h0⟩
    · rename_i h0
      exact absurd h h0
  · rw [if_neg hc] at h
    exact absurd h hc
set_option maxRecDepth 100000 in
set_option maxHeartbeats 4000000 in
theorem fb_Step_ok (f N : Nat) (t : Tch) (r dn : List Tch) (d lb sb : Nat) (D : Dv) (w : World) (h : FibAt w N f (t :: r) dn) (hD : DevAt w d lb sb D) (hn : DvOk D) (hd : N ≤ d) (hlb : N ≤ lb) (hsb : N ≤ sb) (hb : dn.length ≤ 999999) (hp : playE D [t] = 0) :
    Calls Try.prog 38 #[.pointer (some ⟨f, 0, none⟩), .pointer (some ⟨d, 0, none⟩)] w fun e w' => e = .returned (.tuple #[.agg #[.int .i64 (stepT D t).kd, .int .i64 (stepT D t).at', .int .u64 (stepT D t).wd], .int .i64 0]) ∧ FibAt w' N f r (dn ++ [stepT D t]) ∧ DevAt w' d lb sb (playD D [t]) ∧ Ext [f, d, lb, sb] w w' := by
  obtain ⟨w0, hw0⟩ : ∃ w0, w.alloc (.cells #[.int .i64 0, .int .i64 0, .int .u64 0] 82) = w0 := ⟨_, rfl⟩
  obtain ⟨nb, hnb⟩ : ∃ nb, w.heap.size = nb := ⟨_, rfl⟩
  have hE0 : Ext [] w w0 := by rw [← hw0]; exact (Ext.refl _ _).alloc _
  have hb0 : w0.heap[nb]? = some (.cells #[.int .i64 0, .int .i64 0, .int .u64 0] 82 (0, 0)) := by rw [← hw0, ← hnb]; exact World.alloc_heap_new _ _
  have H0 := Lib.hid (And.intro hE0 hb0)
  have hcU := enters_of Try.func120 (by kernel_rfl) rfl
  have HN := Lib.hid (fun W (hE : Ext [] w W) => And.intro (h.ext0 hE) (hD.ext0 hE))
  have HNO := Lib.hid (hD.noTc hd hlb hsb (m := [d, lb, sb]) (fun q hq => by simpa using hq))
  have HFD : Hid (f ∉ [d, lb, sb]) := by
    obtain ⟨_, lo, lc, po, pc, h1, _⟩ := h
    exact hD.noF h1
  have HNN := Lib.hid (And.intro hn (And.intro hd (And.intro hlb hsb)))
  have HLT := Lib.hid hb
  have HDL := Lib.hid hD.lt
  have hl0 : (((t :: r).length : Int) == 0) = false := by simp; omega
  clear hE0 hb0 h hD hn hd hlb hsb hb
  go_enter Try.func38, Try.ntmps38
  go_wp2_with (fail)
  refine (fb_none f N (t :: r) dn w0 (HN.out _ H0.out.1).1).mono ?_
  rintro e w' ⟨rfl, rfl⟩
  go_wp2_with fail
  refine (pm_Same_dn none d lb sb D w0 (HN.out _ H0.out.1).2 (.inl rfl)).mono ?_
  rintro e w' ⟨rfl, rfl⟩
  go_wp2_with fail
  refine (fb_unless false 1 _).mono ?_
  rintro e w1 ⟨rfl, hE1, hU1⟩
  have H1 := Lib.hid (And.intro (H0.out.1.trans hE1) (And.intro (hE1.at H0.out.2 (by simp)) hU1))
  clear hE1 hU1
  go_wp2_with fail
  refine (fb_Left f N (t :: r) dn w1 (HN.out _ H1.out.1).1).mono ?_
  rintro e w' ⟨rfl, rfl⟩
  go_wp2_with fail
  refine (fb_unless false 5 _).mono ?_
  rintro e w2 ⟨rfl, hE2, hU2⟩
  obtain ⟨p1, hp1⟩ : ∃ p1, w0.heap.size = p1 := ⟨_, rfl⟩
  obtain ⟨p2, hp2⟩ : ∃ p2, w1.heap.size = p2 := ⟨_, rfl⟩
  obtain ⟨w3, hw3⟩ : ∃ w3, w2.alloc (.cells #[.func (.func 120) #[] #[.pointer (some ⟨p1, 0, none⟩), .pointer (some ⟨p1 + 1, 0, none⟩)], .func (.func 120) #[] #[.pointer (some ⟨p2, 0, none⟩), .pointer (some ⟨p2 + 1, 0, none⟩)]] 47) = w3 := ⟨_, rfl⟩
  obtain ⟨b3, hb3⟩ : ∃ b3, w2.heap.size = b3 := ⟨_, rfl⟩
  have hE3 : Ext [] w2 w3 := by rw [← hw3]; exact (Ext.refl _ _).alloc _
  have hbl3 : w3.heap[b3]? = some (.cells #[.func (.func 120) #[] #[.pointer (some ⟨p1, 0, none⟩), .pointer (some ⟨p1 + 1, 0, none⟩)], .func (.func 120) #[] #[.pointer (some ⟨p2, 0, none⟩), .pointer (some ⟨p2 + 1, 0, none⟩)]] 47 (0, 0)) := by rw [← hw3, ← hb3]; exact World.alloc_heap_new _ _
  rw [hp1] at H1
  rw [hp2] at hU2
  have H3 := Lib.hid (And.intro ((H1.out.1.trans hE2).trans hE3) (And.intro ((hE2.trans hE3).at H1.out.2.1 (by simp)) (And.intro (H1.out.2.2.ext0 (hE2.trans hE3)) (And.intro (hU2.ext0 hE3) hbl3))))
  clear hE2 hU2 hE3 hbl3
  rw [hp1, hp2]
  clear hp1 hp2
  go_wp2_with fail
  try rw [hw3]
  try rw [hb3]
  refine (fb_asked2 b3 120 120 _ _ _ _ w3 _ _ H3.out.2.2.2.2 (hcU _) (hcU _) (fun W hE => (fb_unless1 p1 (p1 + 1) false 1 W (H3.out.2.2.1.ext0 hE)).mono (fun _ _ h => ⟨h.1, h.2 ▸ Ext.refl _ _⟩)) (fun W hE => (fb_unless1 p2 (p2 + 1) false 5 W (H3.out.2.2.2.1.ext0 hE)).mono (fun _ _ h => ⟨h.1, h.2 ▸ Ext.refl _ _⟩))).mono ?_
  rintro e w4 ⟨rfl, hE4⟩
  have H4 := Lib.hid (And.intro (H3.out.1.trans hE4) (hE4.at H3.out.2.1 (by simp)))
  clear hE4 hw3 hb3
  have hcH := enters_of Try.func91 (by kernel_rfl) rfl
  go_wp2_with fail
  refine (fb_head f N t r dn w4 (HN.out _ H4.out.1).1).mono ?_
  rintro e w5 ⟨rfl, hE5⟩
  have hb5 := hE5.at H4.out.2 (by simp)
  obtain ⟨m0, m1, m2⟩ := three' hb5
  have f0 := free_of hb5 0
  have f1 := free_of hb5 1
  have f2 := free_of hb5 2
  obtain ⟨k, a, x⟩ := t
  dsimp only at *
  have H5 := Lib.hid (And.intro (H4.out.1.trans hE5) hb5)
  clear hE5 hb5 hcH hcU hl0
  go_upto_region 6 with fail
  obtain ⟨w6, hw6⟩ : ∃ w6, ((w5.setCell ⟨nb, 0, none⟩ (.int .i64 k)).setCell ⟨nb, 1, none⟩ (.int .i64 a)).setCell ⟨nb, 2, none⟩ (.int .u64 x) = w6 := ⟨_, rfl⟩
  have hb6 : w6.heap[nb]? = some (.cells #[.int .i64 k, .int .i64 a, .int .u64 x] 82 (0, 0)) := by rw [← hw6]; exact tri_set H5.out.2 _ _ _
  have hE6 : Ext [] w w6 := by rw [← hw6]; exact ((H5.out.1.setCell (.inr (show w.heap.size ≤ nb by omega)) _).setCell (.inr (show w.heap.size ≤ nb by omega)) _).setCell (.inr (show w.heap.size ≤ nb by omega)) _
  try rw [hw6]
  have H6 := Lib.hid (And.intro hE6 hb6)
  obtain ⟨g0, g1, g2⟩ := three' hb6
  clear hw6 hE6 hb6 m0 m1 m2 f0 f1 f2
  obtain ⟨w7, hw7⟩ : ∃ w7, w6.alloc (.cells #[.int .i64 k, .int .i64 a, .int .u64 x] 82) = w7 := ⟨_, rfl⟩
  obtain ⟨pb, hpb⟩ : ∃ pb, w6.heap.size = pb := ⟨_, rfl⟩
  have hE7 : Ext [] w6 w7 := by rw [← hw7]; exact (Ext.refl _ _).alloc _
  have hb7 : w7.heap[pb]? = some (.cells #[.int .i64 k, .int .i64 a, .int .u64 x] 82 (0, 0)) := by rw [← hw7, ← hpb]; exact World.alloc_heap_new _ _
  have HP := Lib.hid (rd_Play d lb sb N D (some ⟨pb, 0, none⟩) 1 [⟨k, a, x⟩] w7 (HN.out _ (H6.out.1.trans hE7)).2 HNN.out.1 (TcAt.one hb7) (by simp) HNN.out.2.1 HNN.out.2.2.1 HNN.out.2.2.2)
  have H7 := Lib.hid (And.intro (H6.out.1.trans hE7) (hE7.at H6.out.2 (by simp)))
  clear hE7 hb7
  have HFL := Lib.hid (HN.out w (Ext.refl _ _)).1.lt
  have HF7 := Lib.hid ((HN.out _ H7.out.1).1)
  have hpd := playE_zero hp
  rw [hp] at HP
  go_wp2_with fail
  try rw [hw7]
  try rw [hpb]
  refine HP.out.mono ?_
  rintro e w8 ⟨rfl, hD8, hE8⟩
  have hnq : nb ∉ [d, lb, sb] := by
    have := HDL.out
    simp
    omega
  have hb8 := hE8.at H7.out.2 hnq
  have hF8 := HF7.out.ext hE8 HFD.out ((HN.out _ H7.out.1).2.noTc HNN.out.2.1 HNN.out.2.2.1 HNN.out.2.2.2 (fun q hq => by simpa using hq))
  have H8 := Lib.hid (And.intro hb8 (And.intro hF8 (And.intro hD8 (H7.out.1.wide.trans hE8))))
  have HPD := Lib.hid hpd
  clear hpd hb8 hD8 hE8 hF8 hw7 hpb g0 g1 g2 hnq hp
  obtain ⟨m0, m1, m2⟩ := three' H8.out.1
  have f2 := free_of H8.out.1 2
  by_cases hk : k = 1
  · subst hk
    have hpo : playD D [⟨1, a, x⟩] = D := HPD.out.1
    have hl0 : (D.load a).2 = 0 := HPD.out.2
    have HLD := Lib.hid (pm_Load d lb sb a D w8 (by have := H8.out.2.2.1; rwa [hpo] at this) HNN.out.1)
    rw [hl0] at HLD
    obtain ⟨x', hx'⟩ : ∃ x', (D.load a).1 = x' := ⟨_, rfl⟩
    rw [hx'] at HLD
    have HST : Hid (stepT D ⟨1, a, x⟩ = ⟨1, a, x'⟩) := by unfold Hid stepT; rw [if_pos rfl, hx']
    clear hpo hl0 hx'
    go_wp2_with fail
    refine HLD.out.mono ?_
    rintro e w8a ⟨rfl, hE8a⟩
    have hb8a := hE8a.at H8.out.1 (by simp)
    obtain ⟨m0, m1, m2⟩ := three' hb8a
    have f2 := free_of hb8a 2
    obtain ⟨w9, hw9⟩ : ∃ w9, w8a.setCell ⟨nb, 2, none⟩ (.int .u64 x') = w9 := ⟨_, rfl⟩
    have hE9 : Ext [nb] w8a w9 := by rw [← hw9]; exact (Ext.refl [nb] w8a).setCell (.inl (by simp)) _
    have hx : w9.heap[nb]? = some (.cells #[.int .i64 1, .int .i64 a, .int .u64 x'] 82 (0, 0)) ∧ FibAt w9 N f (⟨1, a, x⟩ :: r) dn ∧ DevAt w9 d lb sb (playD D [⟨1, a, x⟩]) ∧ Ext [d, lb, sb] w w9 := by
      have hEn : Ext [d, lb, sb] w w9 := (H8.out.2.2.2.then hE8a).trans' hE9 (fun q hq => .inr (by simp at hq; omega))
      refine ⟨by rw [← hw9]; exact tri_set2 hb8a _, (HN.out w (Ext.refl _ _)).1.ext hEn HFD.out HNO.out, (H8.out.2.2.1.ext0 hE8a).extT hE9 hb8a, hEn⟩
    go_upto_region 11 with fail
    try rw [hw9]
    clear hb8a hE8a hE9 m0 m1 m2 f2 hw9
    have HX := Lib.hid hx
    clear hx
    go_wp2_with fail
    refine (fb_pop f N ⟨1, a, x⟩ r dn w9 HX.out.2.1).mono ?_
    rintro e w10 ⟨rfl, hF10, hE10⟩
    have hnf : nb ∉ [f] := by
      have := HFL.out
      simp
      omega
    have hb10 := hE10.at HX.out.1 hnf
    obtain ⟨hNf, lo, lc, po, pc, h1, h2, h3, h4⟩ := hF10
    obtain ⟨g0, g1, g2⟩ := three' hb10
    obtain ⟨k0, k1, k2⟩ := three' h1
    have HCL := Lib.hid (fun W (hE : Ext [] w10 W) => fb_clone N po pc dn W (h3.ext0 hE) (by have := HLT.out; omega))
    have H10 := Lib.hid (And.intro hb10 (And.intro hNf (And.intro h1 (And.intro h2 (And.intro h4 (And.intro (HX.out.2.2.1.extF hE10 HX.out.2.1) (show Ext [f, d, lb, sb] w w10 from (HX.out.2.2.2.sub (fun q hq => List.mem_cons_of_mem _ hq)).trans (hE10.sub (fun q hq => by simp at hq; simp [hq])))))))))
    obtain ⟨i0, hi, hz0, hz1, hz2⟩ := info_parts infoTch
    have hI1 := Lib.hid hi
    have hI2 := Lib.hid hz0
    have hI3 := Lib.hid hz1
    have hI4 := Lib.hid hz2
    clear hi hz0 hz1 hz2 hb10 hNf h1 h2 h3 h4 hE10 hnf k0 k2
    go_upto_region 12 with fail
    refine wp_region_p (hds [0, 1, 2, 3, 4, 6] (.two 5 (tls [7, 8, 9, 10, 11] .done) 7 (tls [5, 8, 9, 10, 11] .done))) (Ext [] w10) (by kernel_rfl) (by kernel_rfl) (fun _ d _ _ _ h => by cases d <;> exact h) (Ext.refl _ _).drew ?_
    repeat (first
      | (refine wpPl_hd ?_ rfl (by rfl) (fun w hSw => ?_) ?_
         rotate_left
         · (have q0 := hSw.cell k1 (by simp); have q1 := hSw.cell g0 (by simp); have q2 := hSw.cell g1 (by simp); have q3 := hSw.cell g2 (by simp); clear hSw; go_simp; first | exact ⟨rfl, rfl⟩ | exact rfl)
         simp only [Act.put, List.setIfInBounds_toArray, List.set_cons_zero, List.set_cons_succ]))
    refine wpPl_two ?_ ?_
    · refine wpPl_tl rfl (by rfl) (fun K hK => ?_)
      go_simp
      go_at_call 86
      refine (HCL.out _ (Ext.refl [] w10).drew).mono ?_
      rintro e w11 ⟨v', rfl, hE11, ho⟩
      obtain ⟨co, cc, rfl, _, _, _⟩ := ho.at (N := N)
      have hX11 : Ext [] w10 w11 := Ext.trans (Ext.refl [] w10).drew hE11
      refine hK _ _ (fun _ => hX11) ?_
      clear hK K
      try simp only [Act.put, List.setIfInBounds_toArray, List.set_cons_zero, List.set_cons_succ]
      refine wpPl_tl rfl (by rfl) (fun K hK => ?_)
      go_simp
      refine hK _ _ (fun _ => hX11.alloc _) ?_
      clear hK K
      try simp only [Act.put, List.setIfInBounds_toArray, List.set_cons_zero, List.set_cons_succ]
      obtain ⟨w12, hw12⟩ : ∃ w12, w11.alloc (.cells #[.int .i64 1, .int .i64 a, .int .u64 x'] 82) = w12 := ⟨_, rfl⟩
      obtain ⟨qb, hqb⟩ : ∃ qb, w11.heap.size = qb := ⟨_, rfl⟩
      have hE12 : Ext [] w11 w12 := by rw [← hw12]; exact (Ext.refl _ _).alloc _
      have hb12 : w12.heap[qb]? = some (.cells #[.int .i64 1, .int .i64 a, .int .u64 x'] 82 (0, 0)) := by rw [← hw12, ← hqb]; exact World.alloc_heap_new _ _
      rw [hw12, hqb]
      have ho12 := owns_ext ho hE12 (fun _ _ => by simp)
      have hX12 := hX11.trans hE12
      refine wpPl_tl rfl (by rfl) (fun K hK => ?_)
      refine of_step (by rfl) (step_append_any (ops := #[]) (E := True) (by rfl) (.tmp 58) (.tmp 60) 75 (by rfl) _ 82 i0 (.agg #[.int .i64 0, .int .i64 0, .int .u64 0]) 3 24 Try.underlying75 hI1.out hI2.out hI3.out hI4.out rfl (by omega) _ dn.length (rowC (tR dn) dn.length) (by rfl) ho12 (some ⟨qb, 0, none⟩) 1 1 (rowC (tR [⟨1, a, x'⟩]) 1) (by rfl) (TcAt.one (N := N) hb12).src ?_ ?_ ?_ ?_)
      · have := HLT.out
        unfold maxLen
        omega
      · have := HLT.out
        omega
      · exact Nat.le_trans hE11.size hE12.size
      intro v13 w13 ho13 hE13 hX13
      have hX13' : Ext [] w10 w13 := hX13 w10 hX12 (Nat.le_refl _)
      have ho14 : TcOwn w13 w10.drew.heap.size v13 (dn ++ [⟨1, a, x'⟩]) := by
        unfold TcOwn
        rw [tR_append, List.length_append]
        exact ho13
      obtain ⟨vo, vc, rfl, hT13, _, hT13b⟩ := ho14.at (N := N)
      refine hK _ _ (fun _ => hX13') ?_
      clear hK K
      try simp only [Act.put, List.setIfInBounds_toArray, List.set_cons_zero, List.set_cons_succ]
      have hb13 := hX13'.at H10.out.2.2.1 (by simp)
      have k1' := cell_of (j := 1) (v := .slice po dn.length pc) hb13 rfl
      have f1' := free_of hb13 1
      have H13 := Lib.hid (And.intro hX13' (And.intro hb13 (And.intro hT13 hT13b)))
      clear ho13 hE13 hX13 hX13' ho14 hT13 hT13b hb13 ho12 hX12 hb12 hE11 ho
      refine wpPl_tl rfl (by rfl) (fun K hK => ?_)
      go_simp
      refine hK _ _ (fun _ => H13.out.1) ?_
      clear hK K
      try simp only [Act.put, List.setIfInBounds_toArray, List.set_cons_zero, List.set_cons_succ]
      refine wpPl_tl rfl (by rfl) (fun K hK => ?_)
      go_simp
      refine hK _ _ (fun _ => H13.out.1) ?_
      clear hK K
      try simp only [Act.put, List.setIfInBounds_toArray, List.set_cons_zero, List.set_cons_succ]
      refine wpPl_last rfl (by rfl) ?_
      go_simp
      obtain ⟨w14, hw14⟩ : ∃ w14, w13.setCell ⟨f, 1, none⟩ (.slice vo (dn.length + 1) vc) = w14 := ⟨_, rfl⟩
      have hE14 : Ext [f] w13 w14 := by rw [← hw14]; exact (Ext.refl [f] w13).setCell (.inl (by simp)) _
      have hbf : w14.heap[f]? = some (.cells #[.slice lo r.length lc, .slice vo (dn.length + 1) vc, .bool true] 109 (0, 0)) := by rw [← hw14]; exact block_set31 H13.out.2.1 _
      have hnf : nb ∉ [f] := by
        have := HFL.out
        simp
        omega
      have hbn := hE14.at (H13.out.1.at H10.out.1 (by simp)) hnf
      obtain ⟨n0, n1, n2⟩ := three' hbn
      have e0 := free_of hbn 0
      have e1 := free_of hbn 1
      have e2 := free_of hbn 2
      have s0 := setCell_same (o := 0) (v := .int .i64 1) hbn rfl
      have s1 := setCell_same (o := 1) (v := .int .i64 a) hbn rfl
      have s2 := setCell_same (o := 2) (v := .int .u64 x') hbn rfl
      rw [hw14]
      have H14 := Lib.hid (And.intro hE14 (And.intro hbf hbn))
      clear hw14 hE14 hbf hnf hbn k1' f1' g0 g1 g2 k1
      go_wp2
      refine bodyPost_ret (results_ca Try.results38 _ _ nb 82 #[.int .i64 1, .int .i64 a, .int .u64 x'] (0, 0) _ _ rfl H14.out.2.2 rfl Try.underlying82 rfl (by kernel_rfl)) rfl ?_
      have hno : NoTc w13 N [f] := fun q hq => by
        simp at hq
        subst hq
        exact .inr ⟨H10.out.2.1, fun cur hb => by rw [H13.out.2.1] at hb; simp at hb⟩
      rw [HST.out]
      refine ⟨rfl, ⟨H10.out.2.1, lo, lc, vo, vc, ?_, (H10.out.2.2.2.1.ext0 H13.out.1).ext H14.out.1 hno, H13.out.2.2.1.ext H14.out.1 hno, H10.out.2.2.2.2.1⟩, (H10.out.2.2.2.2.2.1.ext0 H13.out.1).extFb H14.out.1 H13.out.2.1, (H10.out.2.2.2.2.2.2.trans H13.out.1.wide).trans (H14.out.1.sub (fun q hq => by simp at hq; simp [hq]))⟩
      rw [List.length_append]
      exact H14.out.2.1
    · refine wpPl_tl rfl (by rfl) (fun K hK => ?_)
      go_simp
      refine hK _ _ (fun _ => (Ext.refl _ _).drew.alloc _) ?_
      clear hK K
      try simp only [Act.put, List.setIfInBounds_toArray, List.set_cons_zero, List.set_cons_succ]
      obtain ⟨wz, hwz⟩ : ∃ wz, (w10.alloc (.cells #[.int .i64 1, .int .i64 a, .int .u64 x'] 82)).drew = wz := ⟨_, rfl⟩
      obtain ⟨qb, hqb⟩ : ∃ qb, w10.heap.size = qb := ⟨_, rfl⟩
      have hEz : Ext [] w10 wz := by rw [← hwz]; exact ((Ext.refl _ _).alloc _).drew
      have hbz : wz.heap[qb]? = some (.cells #[.int .i64 1, .int .i64 a, .int .u64 x'] 82 (0, 0)) := by rw [← hwz, ← hqb]; exact World.alloc_heap_new w10 _
      rw [hwz]
      try rw [hqb]
      refine wpPl_tl rfl (by rfl) (fun K hK => ?_)
      go_simp
      go_at_call 86
      refine (HCL.out _ hEz).mono ?_
      rintro e w12 ⟨v', rfl, hE11, ho⟩
      obtain ⟨co, cc, rfl, _, _, _⟩ := ho.at (N := N)
      have hX12 : Ext [] w10 w12 := Ext.trans hEz hE11
      refine hK _ _ (fun _ => hX12) ?_
      clear hK K
      try simp only [Act.put, List.setIfInBounds_toArray, List.set_cons_zero, List.set_cons_succ]
      have hb12 := hE11.at hbz (by simp)
      have ho12 := ho
      refine wpPl_tl rfl (by rfl) (fun K hK => ?_)
      refine of_step (by rfl) (step_append_any (ops := #[]) (E := True) (by rfl) (.tmp 58) (.tmp 60) 75 (by rfl) _ 82 i0 (.agg #[.int .i64 0, .int .i64 0, .int .u64 0]) 3 24 Try.underlying75 hI1.out hI2.out hI3.out hI4.out rfl (by omega) _ dn.length (rowC (tR dn) dn.length) (by rfl) ho12 (some ⟨qb, 0, none⟩) 1 1 (rowC (tR [⟨1, a, x'⟩]) 1) (by rfl) (TcAt.one (N := N) hb12).src ?_ ?_ ?_ ?_)
      · have := HLT.out
        unfold maxLen
        omega
      · have := HLT.out
        omega
      · exact hE11.size
      intro v13 w13 ho13 hE13 hX13
      have hX13' : Ext [] w10 w13 := hX13 w10 hX12 hEz.size
      have ho14 : TcOwn w13 wz.heap.size v13 (dn ++ [⟨1, a, x'⟩]) := by
        unfold TcOwn
        rw [tR_append, List.length_append]
        exact ho13
      obtain ⟨vo, vc, rfl, hT13, _, hT13b⟩ := ho14.at (N := N)
      refine hK _ _ (fun _ => hX13') ?_
      clear hK K
      try simp only [Act.put, List.setIfInBounds_toArray, List.set_cons_zero, List.set_cons_succ]
      have hb13 := hX13'.at H10.out.2.2.1 (by simp)
      have k1' := cell_of (j := 1) (v := .slice po dn.length pc) hb13 rfl
      have f1' := free_of hb13 1
      have H13 := Lib.hid (And.intro hX13' (And.intro hb13 (And.intro hT13 hT13b)))
      clear ho13 hE13 hX13 hX13' ho14 hT13 hT13b hb13 ho12 hX12 hb12 hE11 ho
      refine wpPl_tl rfl (by rfl) (fun K hK => ?_)
      go_simp
      refine hK _ _ (fun _ => H13.out.1) ?_
      clear hK K
      try simp only [Act.put, List.setIfInBounds_toArray, List.set_cons_zero, List.set_cons_succ]
      refine wpPl_tl rfl (by rfl) (fun K hK => ?_)
      go_simp
      refine hK _ _ (fun _ => H13.out.1) ?_
      clear hK K
      try simp only [Act.put, List.setIfInBounds_toArray, List.set_cons_zero, List.set_cons_succ]
      refine wpPl_last rfl (by rfl) ?_
      go_simp
      obtain ⟨w14, hw14⟩ : ∃ w14, w13.setCell ⟨f, 1, none⟩ (.slice vo (dn.length + 1) vc) = w14 := ⟨_, rfl⟩
      have hE14 : Ext [f] w13 w14 := by rw [← hw14]; exact (Ext.refl [f] w13).setCell (.inl (by simp)) _
      have hbf : w14.heap[f]? = some (.cells #[.slice lo r.length lc, .slice vo (dn.length + 1) vc, .bool true] 109 (0, 0)) := by rw [← hw14]; exact block_set31 H13.out.2.1 _
      have hnf : nb ∉ [f] := by
        have := HFL.out
        simp
        omega
      have hbn := hE14.at (H13.out.1.at H10.out.1 (by simp)) hnf
      obtain ⟨n0, n1, n2⟩ := three' hbn
      have e0 := free_of hbn 0
      have e1 := free_of hbn 1
      have e2 := free_of hbn 2
      have s0 := setCell_same (o := 0) (v := .int .i64 1) hbn rfl
      have s1 := setCell_same (o := 1) (v := .int .i64 a) hbn rfl
      have s2 := setCell_same (o := 2) (v := .int .u64 x') hbn rfl
      rw [hw14]
      have H14 := Lib.hid (And.intro hE14 (And.intro hbf hbn))
      clear hw14 hE14 hbf hnf hbn k1' f1' g0 g1 g2 k1
      go_wp2
      refine bodyPost_ret (results_ca Try.results38 _ _ nb 82 #[.int .i64 1, .int .i64 a, .int .u64 x'] (0, 0) _ _ rfl H14.out.2.2 rfl Try.underlying82 rfl (by kernel_rfl)) rfl ?_
      have hno : NoTc w13 N [f] := fun q hq => by
        simp at hq
        subst hq
        exact .inr ⟨H10.out.2.1, fun cur hb => by rw [H13.out.2.1] at hb; simp at hb⟩
      rw [HST.out]
      refine ⟨rfl, ⟨H10.out.2.1, lo, lc, vo, vc, ?_, (H10.out.2.2.2.1.ext0 H13.out.1).ext H14.out.1 hno, H13.out.2.2.1.ext H14.out.1 hno, H10.out.2.2.2.2.1⟩, (H10.out.2.2.2.2.2.1.ext0 H13.out.1).extFb H14.out.1 H13.out.2.1, (H10.out.2.2.2.2.2.2.trans H13.out.1.wide).trans (H14.out.1.sub (fun q hq => by simp at hq; simp [hq]))⟩
      rw [List.length_append]
      exact H14.out.2.1
  · have hk1 : (k == 1) = false := by simpa using hk
    have HST : Hid (stepT D ⟨k, a, x⟩ = ⟨k, a, x⟩) := by unfold Hid stepT; rw [if_neg hk]
    clear hk
    have hx := H8.out
    have HX := Lib.hid hx
    clear hx
    go_wp2_with fail
    refine (fb_pop f N ⟨k, a, x⟩ r dn w8 HX.out.2.1).mono ?_
    rintro e w10 ⟨rfl, hF10, hE10⟩
    have hnf : nb ∉ [f] := by
      have := HFL.out
      simp
      omega
    have hb10 := hE10.at HX.out.1 hnf
    obtain ⟨hNf, lo, lc, po, pc, h1, h2, h3, h4⟩ := hF10
    obtain ⟨g0, g1, g2⟩ := three' hb10
    obtain ⟨k0, k1, k2⟩ := three' h1
    have HCL := Lib.hid (fun W (hE : Ext [] w10 W) => fb_clone N po pc dn W (h3.ext0 hE) (by have := HLT.out; omega))
    have H10 := Lib.hid (And.intro hb10 (And.intro hNf (And.intro h1 (And.intro h2 (And.intro h4 (And.intro (HX.out.2.2.1.extF hE10 HX.out.2.1) (show Ext [f, d, lb, sb] w w10 from (HX.out.2.2.2.sub (fun q hq => List.mem_cons_of_mem _ hq)).trans (hE10.sub (fun q hq => by simp at hq; simp [hq])))))))))
    obtain ⟨i0, hi, hz0, hz1, hz2⟩ := info_parts infoTch
    have hI1 := Lib.hid hi
    have hI2 := Lib.hid hz0
    have hI3 := Lib.hid hz1
    have hI4 := Lib.hid hz2
    clear hi hz0 hz1 hz2 hb10 hNf h1 h2 h3 h4 hE10 hnf k0 k2
    go_upto_region 12 with fail
    refine wp_region_p (hds [0, 1, 2, 3, 4, 6] (.two 5 (tls [7, 8, 9, 10, 11] .done) 7 (tls [5, 8, 9, 10, 11] .done))) (Ext [] w10) (by kernel_rfl) (by kernel_rfl) (fun _ d _ _ _ h => by cases d <;> exact h) (Ext.refl _ _).drew ?_
    repeat (first
      | (refine wpPl_hd ?_ rfl (by rfl) (fun w hSw => ?_) ?_
         rotate_left
         · (have q0 := hSw.cell k1 (by simp); have q1 := hSw.cell g0 (by simp); have q2 := hSw.cell g1 (by simp); have q3 := hSw.cell g2 (by simp); clear hSw; go_simp; first | exact ⟨rfl, rfl⟩ | exact rfl)
         simp only [Act.put, List.setIfInBounds_toArray, List.set_cons_zero, List.set_cons_succ]))
    refine wpPl_two ?_ ?_
    · refine wpPl_tl rfl (by rfl) (fun K hK => ?_)
      go_simp
      go_at_call 86
      refine (HCL.out _ (Ext.refl [] w10).drew).mono ?_
      rintro e w11 ⟨v', rfl, hE11, ho⟩
      obtain ⟨co, cc, rfl, _, _, _⟩ := ho.at (N := N)
      have hX11 : Ext [] w10 w11 := Ext.trans (Ext.refl [] w10).drew hE11
      refine hK _ _ (fun _ => hX11) ?_
      clear hK K
      try simp only [Act.put, List.setIfInBounds_toArray, List.set_cons_zero, List.set_cons_succ]
      refine wpPl_tl rfl (by rfl) (fun K hK => ?_)
      go_simp
      refine hK _ _ (fun _ => hX11.alloc _) ?_
      clear hK K
      try simp only [Act.put, List.setIfInBounds_toArray, List.set_cons_zero, List.set_cons_succ]
      obtain ⟨w12, hw12⟩ : ∃ w12, w11.alloc (.cells #[.int .i64 k, .int .i64 a, .int .u64 x] 82) = w12 := ⟨_, rfl⟩
      obtain ⟨qb, hqb⟩ : ∃ qb, w11.heap.size = qb := ⟨_, rfl⟩
      have hE12 : Ext [] w11 w12 := by rw [← hw12]; exact (Ext.refl _ _).alloc _
      have hb12 : w12.heap[qb]? = some (.cells #[.int .i64 k, .int .i64 a, .int .u64 x] 82 (0, 0)) := by rw [← hw12, ← hqb]; exact World.alloc_heap_new _ _
      rw [hw12, hqb]
      have ho12 := owns_ext ho hE12 (fun _ _ => by simp)
      have hX12 := hX11.trans hE12
      refine wpPl_tl rfl (by rfl) (fun K hK => ?_)
      refine of_step (by rfl) (step_append_any (ops := #[]) (E := True) (by rfl) (.tmp 58) (.tmp 60) 75 (by rfl) _ 82 i0 (.agg #[.int .i64 0, .int .i64 0, .int .u64 0]) 3 24 Try.underlying75 hI1.out hI2.out hI3.out hI4.out rfl (by omega) _ dn.length (rowC (tR dn) dn.length) (by rfl) ho12 (some ⟨qb, 0, none⟩) 1 1 (rowC (tR [⟨k, a, x⟩]) 1) (by rfl) (TcAt.one (N := N) hb12).src ?_ ?_ ?_ ?_)
      · have := HLT.out
        unfold maxLen
        omega
      · have := HLT.out
        omega
      · exact Nat.le_trans hE11.size hE12.size
      intro v13 w13 ho13 hE13 hX13
      have hX13' : Ext [] w10 w13 := hX13 w10 hX12 (Nat.le_refl _)
      have ho14 : TcOwn w13 w10.drew.heap.size v13 (dn ++ [⟨k, a, x⟩]) := by
        unfold TcOwn
        rw [tR_append, List.length_append]
        exact ho13
      obtain ⟨vo, vc, rfl, hT13, _, hT13b⟩ := ho14.at (N := N)
      refine hK _ _ (fun _ => hX13') ?_
      clear hK K
      try simp only [Act.put, List.setIfInBounds_toArray, List.set_cons_zero, List.set_cons_succ]
      have hb13 := hX13'.at H10.out.2.2.1 (by simp)
      have k1' := cell_of (j := 1) (v := .slice po dn.length pc) hb13 rfl
      have f1' := free_of hb13 1
      have H13 := Lib.hid (And.intro hX13' (And.intro hb13 (And.intro hT13 hT13b)))
      clear ho13 hE13 hX13 hX13' ho14 hT13 hT13b hb13 ho12 hX12 hb12 hE11 ho
      refine wpPl_tl rfl (by rfl) (fun K hK => ?_)
      go_simp
      refine hK _ _ (fun _ => H13.out.1) ?_
      clear hK K
      try simp only [Act.put, List.setIfInBounds_toArray, List.set_cons_zero, List.set_cons_succ]
      refine wpPl_tl rfl (by rfl) (fun K hK => ?_)
      go_simp
      refine hK _ _ (fun _ => H13.out.1) ?_
      clear hK K
      try simp only [Act.put, List.setIfInBounds_toArray, List.set_cons_zero, List.set_cons_succ]
      refine wpPl_last rfl (by rfl) ?_
      go_simp
      obtain ⟨w14, hw14⟩ : ∃ w14, w13.setCell ⟨f, 1, none⟩ (.slice vo (dn.length + 1) vc) = w14 := ⟨_, rfl⟩
      have hE14 : Ext [f] w13 w14 := by rw [← hw14]; exact (Ext.refl [f] w13).setCell (.inl (by simp)) _
      have hbf : w14.heap[f]? = some (.cells #[.slice lo r.length lc, .slice vo (dn.length + 1) vc, .bool true] 109 (0, 0)) := by rw [← hw14]; exact block_set31 H13.out.2.1 _
      have hnf : nb ∉ [f] := by
        have := HFL.out
        simp
        omega
      have hbn := hE14.at (H13.out.1.at H10.out.1 (by simp)) hnf
      obtain ⟨n0, n1, n2⟩ := three' hbn
      have e0 := free_of hbn 0
      have e1 := free_of hbn 1
      have e2 := free_of hbn 2
      have s0 := setCell_same (o := 0) (v := .int .i64 k) hbn rfl
      have s1 := setCell_same (o := 1) (v := .int .i64 a) hbn rfl
      have s2 := setCell_same (o := 2) (v := .int .u64 x) hbn rfl
      rw [hw14]
      have H14 := Lib.hid (And.intro hE14 (And.intro hbf hbn))
      clear hw14 hE14 hbf hnf hbn k1' f1' g0 g1 g2 k1
      go_wp2
      refine bodyPost_ret (results_ca Try.results38 _ _ nb 82 #[.int .i64 k, .int .i64 a, .int .u64 x] (0, 0) _ _ rfl H14.out.2.2 rfl Try.underlying82 rfl (by kernel_rfl)) rfl ?_
      have hno : NoTc w13 N [f] := fun q hq => by
        simp at hq
        subst hq
        exact .inr ⟨H10.out.2.1, fun cur hb => by rw [H13.out.2.1] at hb; simp at hb⟩
      rw [HST.out]
      refine ⟨rfl, ⟨H10.out.2.1, lo, lc, vo, vc, ?_, (H10.out.2.2.2.1.ext0 H13.out.1).ext H14.out.1 hno, H13.out.2.2.1.ext H14.out.1 hno, H10.out.2.2.2.2.1⟩, (H10.out.2.2.2.2.2.1.ext0 H13.out.1).extFb H14.out.1 H13.out.2.1, (H10.out.2.2.2.2.2.2.trans H13.out.1.wide).trans (H14.out.1.sub (fun q hq => by simp at hq; simp [hq]))⟩
      rw [List.length_append]
      exact H14.out.2.1
    · refine wpPl_tl rfl (by rfl) (fun K hK => ?_)
      go_simp
      refine hK _ _ (fun _ => (Ext.refl _ _).drew.alloc _) ?_
      clear hK K
      try simp only [Act.put, List.setIfInBounds_toArray, List.set_cons_zero, List.set_cons_succ]
      obtain ⟨wz, hwz⟩ : ∃ wz, (w10.alloc (.cells #[.int .i64 k, .int .i64 a, .int .u64 x] 82)).drew = wz := ⟨_, rfl⟩
      obtain ⟨qb, hqb⟩ : ∃ qb, w10.heap.size = qb := ⟨_, rfl⟩
      have hEz : Ext [] w10 wz := by rw [← hwz]; exact ((Ext.refl _ _).alloc _).drew
      have hbz : wz.heap[qb]? = some (.cells #[.int .i64 k, .int .i64 a, .int .u64 x] 82 (0, 0)) := by rw [← hwz, ← hqb]; exact World.alloc_heap_new w10 _
      rw [hwz]
      try rw [hqb]
      refine wpPl_tl rfl (by rfl) (fun K hK => ?_)
      go_simp
      go_at_call 86
      refine (HCL.out _ hEz).mono ?_
      rintro e w12 ⟨v', rfl, hE11, ho⟩
      obtain ⟨co, cc, rfl, _, _, _⟩ := ho.at (N := N)
      have hX12 : Ext [] w10 w12 := Ext.trans hEz hE11
      refine hK _ _ (fun _ => hX12) ?_
      clear hK K
      try simp only [Act.put, List.setIfInBounds_toArray, List.set_cons_zero, List.set_cons_succ]
      have hb12 := hE11.at hbz (by simp)
      have ho12 := ho
      refine wpPl_tl rfl (by rfl) (fun K hK => ?_)
      refine of_step (by rfl) (step_append_any (ops := #[]) (E := True) (by rfl) (.tmp 58) (.tmp 60) 75 (by rfl) _ 82 i0 (.agg #[.int .i64 0, .int .i64 0, .int .u64 0]) 3 24 Try.underlying75 hI1.out hI2.out hI3.out hI4.out rfl (by omega) _ dn.length (rowC (tR dn) dn.length) (by rfl) ho12 (some ⟨qb, 0, none⟩) 1 1 (rowC (tR [⟨k, a, x⟩]) 1) (by rfl) (TcAt.one (N := N) hb12).src ?_ ?_ ?_ ?_)
      · have := HLT.out
        unfold maxLen
        omega
      · have := HLT.out
        omega
      · exact hE11.size
      intro v13 w13 ho13 hE13 hX13
      have hX13' : Ext [] w10 w13 := hX13 w10 hX12 hEz.size
      have ho14 : TcOwn w13 wz.heap.size v13 (dn ++ [⟨k, a, x⟩]) := by
        unfold TcOwn
        rw [tR_append, List.length_append]
        exact ho13
      obtain ⟨vo, vc, rfl, hT13, _, hT13b⟩ := ho14.at (N := N)
      refine hK _ _ (fun _ => hX13') ?_
      clear hK K
      try simp only [Act.put, List.setIfInBounds_toArray, List.set_cons_zero, List.set_cons_succ]
      have hb13 := hX13'.at H10.out.2.2.1 (by simp)
      have k1' := cell_of (j := 1) (v := .slice po dn.length pc) hb13 rfl
      have f1' := free_of hb13 1
      have H13 := Lib.hid (And.intro hX13' (And.intro hb13 (And.intro hT13 hT13b)))
      clear ho13 hE13 hX13 hX13' ho14 hT13 hT13b hb13 ho12 hX12 hb12 hE11 ho
      refine wpPl_tl rfl (by rfl) (fun K hK => ?_)
      go_simp
      refine hK _ _ (fun _ => H13.out.1) ?_
      clear hK K
      try simp only [Act.put, List.setIfInBounds_toArray, List.set_cons_zero, List.set_cons_succ]
      refine wpPl_tl rfl (by rfl) (fun K hK => ?_)
      go_simp
      refine hK _ _ (fun _ => H13.out.1) ?_
      clear hK K
      try simp only [Act.put, List.setIfInBounds_toArray, List.set_cons_zero, List.set_cons_succ]
      refine wpPl_last rfl (by rfl) ?_
      go_simp
      obtain ⟨w14, hw14⟩ : ∃ w14, w13.setCell ⟨f, 1, none⟩ (.slice vo (dn.length + 1) vc) = w14 := ⟨_, rfl⟩
      have hE14 : Ext [f] w13 w14 := by rw [← hw14]; exact (Ext.refl [f] w13).setCell (.inl (by simp)) _
      have hbf : w14.heap[f]? = some (.cells #[.slice lo r.length lc, .slice vo (dn.length + 1) vc, .bool true] 109 (0, 0)) := by rw [← hw14]; exact block_set31 H13.out.2.1 _
      have hnf : nb ∉ [f] := by
        have := HFL.out
        simp
        omega
      have hbn := hE14.at (H13.out.1.at H10.out.1 (by simp)) hnf
      obtain ⟨n0, n1, n2⟩ := three' hbn
      have e0 := free_of hbn 0
      have e1 := free_of hbn 1
      have e2 := free_of hbn 2
      have s0 := setCell_same (o := 0) (v := .int .i64 k) hbn rfl
      have s1 := setCell_same (o := 1) (v := .int .i64 a) hbn rfl
      have s2 := setCell_same (o := 2) (v := .int .u64 x) hbn rfl
      rw [hw14]
      have H14 := Lib.hid (And.intro hE14 (And.intro hbf hbn))
      clear hw14 hE14 hbf hnf hbn k1' f1' g0 g1 g2 k1
      go_wp2
      refine bodyPost_ret (results_ca Try.results38 _ _ nb 82 #[.int .i64 k, .int .i64 a, .int .u64 x] (0, 0) _ _ rfl H14.out.2.2 rfl Try.underlying82 rfl (by kernel_rfl)) rfl ?_
      have hno : NoTc w13 N [f] := fun q hq => by
        simp at hq
        subst hq
        exact .inr ⟨H10.out.2.1, fun cur hb => by rw [H13.out.2.1] at hb; simp at hb⟩
      rw [HST.out]
      refine ⟨rfl, ⟨H10.out.2.1, lo, lc, vo, vc, ?_, (H10.out.2.2.2.1.ext0 H13.out.1).ext H14.out.1 hno, H13.out.2.2.1.ext H14.out.1 hno, H10.out.2.2.2.2.1⟩, (H10.out.2.2.2.2.2.1.ext0 H13.out.1).extFb H14.out.1 H13.out.2.1, (H10.out.2.2.2.2.2.2.trans H13.out.1.wide).trans (H14.out.1.sub (fun q hq => by simp at hq; simp [hq]))⟩
      rw [List.length_append]
      exact H14.out.2.1
end Go.Proofs.Ytfojmjkcjdehaaa
