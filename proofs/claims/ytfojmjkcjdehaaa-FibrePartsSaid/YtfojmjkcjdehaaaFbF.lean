/- Package fibre: Then. -/
import Derived.Test.YtfojmjkcjdehaaaFbE
namespace Go.Proofs.Ytfojmjkcjdehaaa
open Go Go.RowKit Go.Shelf
attribute [local go_sem] Oper.semAt_some

set_option maxHeartbeats 400000 in
theorem fb_Then1 (b N : Nat) (mo : Option Addr) (mc : Nat) (M : List Tch) (w : World) (hb : w.heap[b]? = some (.cells #[.slice mo M.length mc] 75 (0, 0))) (hM : TcAt w N mo M) (hl : M.length ≤ 9223372036854775807) :
    Calls Try.prog 93 #[.pointer (some ⟨b, 0, none⟩)] w fun e w' => e = .returned (.int .i64 (tcheck M)) ∧ Ext [] w w' := by
  have HC := Lib.hid (tc_Check N mo mc M w hM hl)
  have k0 := cell_of (j := 0) (v := .slice mo M.length mc) hb rfl
  generalize M.length = m at *
  clear hb hM hl
  go_enter Try.func93, Try.ntmps93
  go_wp2_with fail
  refine HC.out.mono ?_
  rintro e w1 ⟨rfl, hE1⟩
  go_wp2
  go_ret
  exact ⟨rfl, hE1⟩

/-- what Then tells -/
def thenE (L dn M : List Tch) : Int := ask2 (tcheck M) (if decide ((4096 : Int) < (dn.length : Int) + (L.length : Int) + (M.length : Int)) = true then 3 else 0)
/-- behind Then -/
def ThenP (N f : Nat) (L dn M : List Tch) (w' : World) : Prop := FibAt w' N f (if thenE L dn M = 0 then L ++ M else L) dn
set_option maxRecDepth 100000 in
set_option maxHeartbeats 2000000 in
theorem fb_Then_none (v : Value) (mo : Option Addr) (m mc : Nat) (w : World) (h : NoneF w v) :
    Calls Try.prog 40 #[v, .slice mo m mc] w fun e w' => e = .returned (.int .i64 1) ∧ Ext [] w w' := by
  have HN := Lib.hid (fb_isnone v _ (h.ext ((Ext.refl [] w).alloc (.cells #[.slice mo m mc] 75))))
  clear h
  go_enter Try.func40, Try.ntmps40
  go_wp2_with fail
  refine HN.out.mono ?_
  rintro e w' ⟨rfl, rfl⟩
  go_wp2
  go_ret
  exact ⟨rfl, (Ext.refl _ _).alloc _⟩
set_option maxRecDepth 100000 in
set_option maxHeartbeats 4000000 in
theorem fb_Then (f N : Nat) (L dn : List Tch) (mo : Option Addr) (mc : Nat) (M : List Tch) (w : World) (h : FibAt w N f L dn) (hM : TcAt w N mo M) (l1 : L.length ≤ 1000000) (l2 : dn.length ≤ 1000000) (l3 : M.length ≤ 1000000) :
    Calls Try.prog 40 #[.pointer (some ⟨f, 0, none⟩), .slice mo M.length mc] w fun e w' => e = .returned (.int .i64 (thenE L dn M)) ∧ ThenP N f L dn M w' ∧ Ext [f] w w' := by
  obtain ⟨w0, hw0⟩ : ∃ w0, w.alloc (.cells #[.slice mo M.length mc] 75) = w0 := ⟨_, rfl⟩
  obtain ⟨nb, hnb⟩ : ∃ nb, w.heap.size = nb := ⟨_, rfl⟩
  have hb0 : w0.heap[nb]? = some (.cells #[.slice mo M.length mc] 75 (0, 0)) := by rw [← hw0, ← hnb]; exact World.alloc_heap_new _ _
  have hE0 : Ext [] w w0 := by rw [← hw0]; exact (Ext.refl _ _).alloc _
  have HF := Lib.hid (h.ext0 hE0)
  have HM0 := Lib.hid (hM.ext0 hE0)
  have HN := Lib.hid (fb_none f N L dn w0 (h.ext0 hE0))
  have hflt : f < nb := by rw [← hnb]; exact h.lt
  obtain ⟨hNf, lo, lc, po, pc, h1, ha, hda, hcap⟩ := h.ext0 hE0
  obtain ⟨k0, k1, k2⟩ := three' h1
  have kb := cell_of (j := 0) (v := .slice mo M.length mc) hb0 rfl
  obtain ⟨c, hc⟩ : ∃ c, decide ((4096 : Int) < (dn.length : Int) + (L.length : Int) + (M.length : Int)) = c := ⟨_, rfl⟩
  have HT1 := Lib.hid (fun W (hE : Ext [] w0 W) => fb_Then1 nb N mo mc M W (hE.at hb0 (by simp)) (HM0.out.ext0 hE) (by omega))
  have HCL := Lib.hid (fun W (hE : Ext [] w0 W) => fb_clone N lo lc L W (ha.ext0 hE) l1)
  have HTE : Hid (thenE L dn M = ask2 (tcheck M) (if c = true then 3 else 0)) := by unfold Hid thenE; rw [hc]
  have q1 : IntKind.i64.wrap ((dn.length : Int) + (L.length : Int)) = (dn.length : Int) + (L.length : Int) := by rw [IntKind.wrap_i64]; omega
  have q2 : IntKind.i64.wrap ((dn.length : Int) + (L.length : Int) + (M.length : Int)) = (dn.length : Int) + (L.length : Int) + (M.length : Int) := by rw [IntKind.wrap_i64]; omega
  have hcU := enters_of Try.func120 (by kernel_rfl) rfl
  have hcT := enters_of Try.func93 (by kernel_rfl) rfl
  have H0 := Lib.hid (And.intro hE0 (And.intro hb0 (And.intro hNf (And.intro h1 (And.intro ha (And.intro hda (And.intro hcap (And.intro hflt (And.intro l1 (And.intro l2 l3))))))))))
  have HLEN := Lib.hid (show (L ++ M).length = L.length + M.length from List.length_append)
  obtain ⟨nl, hnl⟩ : ∃ nl, L.length = nl := ⟨_, rfl⟩
  obtain ⟨nd, hnd⟩ : ∃ nd, dn.length = nd := ⟨_, rfl⟩
  obtain ⟨nm, hnm⟩ : ∃ nm, M.length = nm := ⟨_, rfl⟩
  have HNL := Lib.hid (And.intro hnl (And.intro hnd hnm))
  rw [hnl, hnd, hnm] at hc q2
  rw [hnl, hnd] at q1
  rw [hnl] at k0 HCL
  rw [hnd] at k1
  rw [hnm] at kb hw0 ⊢
  clear hE0 hb0 h hM hNf h1 ha hda hcap l1 l2 l3 hflt hnl hnd hnm
  go_enter Try.func40, Try.ntmps40
  go_wp2_with fail
  try rw [hw0]
  refine HN.out.mono ?_
  rintro e w' ⟨rfl, rfl⟩
  go_upto_region 3 with fail
  try rw [hw0]
  try rw [hnb]
  clear hw0
  refine wp_region_p (hds [0, 1, 2, 3, 4, 5, 6, 7, 8, 9, 10, 11, 12, 13, 14, 15, 16] (tls [17, 18, 19, 20] .done)) (Ext [] w0) (by kernel_rfl) (by kernel_rfl) (fun _ d _ _ _ h => by cases d <;> exact h) (Ext.refl _ _).drew ?_
  repeat (first
    | (refine wpPl_hd ?_ rfl (by rfl) (fun w hSw => ?_) ?_
       rotate_left
       · (have r0 := hSw.cell k0 (by simp); have r1 := hSw.cell k1 (by simp); have r2 := hSw.cell kb (by simp); clear hSw; go_simp; first | exact ⟨rfl, rfl⟩ | exact rfl)
       simp only [Act.put, List.setIfInBounds_toArray, List.set_cons_zero, List.set_cons_succ]))
  refine wpPl_tl rfl (by rfl) (fun K hK => ?_)
  go_simp
  go_at_call 89
  refine (fb_unless c 3 w0.drew).mono ?_
  rintro e w1 ⟨rfl, hE1, hU1⟩
  have hX1 : Ext [] w0 w1 := (Ext.refl [] w0).drew.trans hE1
  refine hK _ _ (fun _ => hX1) ?_
  clear hK K
  try simp only [Act.put, List.setIfInBounds_toArray, List.set_cons_zero, List.set_cons_succ]
  obtain ⟨p1, hp1⟩ : ∃ p1, w0.heap.size = p1 := ⟨_, rfl⟩
  have hp1' : w0.drew.heap.size = p1 := hp1
  rw [hp1'] at hU1
  try rw [hp1']
  try rw [hp1]
  refine wpPl_tl rfl (by rfl) (fun K hK => ?_)
  go_simp
  refine hK _ _ (fun _ => hX1.alloc _) ?_
  clear hK K
  try simp only [Act.put, List.setIfInBounds_toArray, List.set_cons_zero, List.set_cons_succ]
  obtain ⟨w2, hw2⟩ : ∃ w2, w1.alloc (.cells #[.func (.func 93) #[] #[.pointer (some ⟨nb, 0, none⟩)], .func (.func 120) #[] #[.pointer (some ⟨p1, 0, none⟩), .pointer (some ⟨p1 + 1, 0, none⟩)]] 47) = w2 := ⟨_, rfl⟩
  obtain ⟨b2, hb2e⟩ : ∃ b2, w1.heap.size = b2 := ⟨_, rfl⟩
  have hE2 : Ext [] w1 w2 := by rw [← hw2]; exact (Ext.refl _ _).alloc _
  have hb2 : w2.heap[b2]? = some (.cells #[.func (.func 93) #[] #[.pointer (some ⟨nb, 0, none⟩)], .func (.func 120) #[] #[.pointer (some ⟨p1, 0, none⟩), .pointer (some ⟨p1 + 1, 0, none⟩)]] 47 (0, 0)) := by rw [← hw2, ← hb2e]; exact World.alloc_heap_new _ _
  rw [hw2, hb2e]
  have H2 := Lib.hid (And.intro (hX1.trans hE2) (And.intro (hU1.ext0 hE2) hb2))
  clear hE2 hb2 hw2 hb2e hU1 hX1 hE1 hp1 hp1'
  refine wpPl_tl rfl (by rfl) (fun K hK => ?_)
  go_simp
  go_at_call 88
  refine (fb_asked2 b2 93 120 _ _ (tcheck M) (if c = true then 3 else 0) w2 _ _ H2.out.2.2 (hcT _) (hcU _) (fun W hE => HT1.out W (H2.out.1.trans hE)) (fun W hE => (fb_unless1 p1 (p1 + 1) c 3 W (H2.out.2.1.ext0 hE)).mono (fun _ _ h => ⟨h.1, h.2 ▸ Ext.refl _ _⟩))).mono ?_
  rintro e w3 ⟨rfl, hE3⟩
  have hX3 := H2.out.1.trans hE3
  refine hK _ _ (fun _ => hX3) ?_
  clear hK K hE3
  try simp only [Act.put, List.setIfInBounds_toArray, List.set_cons_zero, List.set_cons_succ]
  rw [← HTE.out]
  obtain ⟨te, hte⟩ : ∃ te, thenE L dn M = te := ⟨_, rfl⟩
  have HTT := Lib.hid hte
  rw [hte]
  have H3 := Lib.hid hX3
  have HX := Lib.hid (And.intro q1 q2)
  clear hte hX3 q1 q2 hcU hcT HT1 hc
  refine wpPl_last rfl (by rfl) ?_
  go_simp
  have r0 := H3.out.cell k0 (by simp)
  have r1 := H3.out.cell k1 (by simp)
  have r2 := H3.out.cell kb (by simp)
  clear k0 k1 k2 kb
  by_cases h0 : te = 0
  · subst h0
    obtain ⟨i0, hi, hz0, hz1, hz2⟩ := info_parts infoTch
    have hI1 := Lib.hid hi
    have hI2 := Lib.hid hz0
    have hI3 := Lib.hid hz1
    have hI4 := Lib.hid hz2
    clear hi hz0 hz1 hz2
    go_upto_region 5 with fail
    refine wp_region_p (hds [0, 1, 2, 3, 4, 5, 7] (tls [6, 8, 9, 10, 11, 12] .done)) (Ext [] w3) (by kernel_rfl) (by kernel_rfl) (fun _ d _ _ _ h => by cases d <;> exact h) (Ext.refl _ _).drew ?_
    repeat (first
      | (refine wpPl_hd ?_ rfl (by rfl) (fun w hSw => ?_) ?_
         rotate_left
         · (have q0 := hSw.cell r0 (by simp); have q2 := hSw.cell r2 (by simp); clear hSw; go_simp; first | exact ⟨rfl, rfl⟩ | exact rfl)
         simp only [Act.put, List.setIfInBounds_toArray, List.set_cons_zero, List.set_cons_succ]))
    refine wpPl_tl rfl (by rfl) (fun K hK => ?_)
    go_simp
    go_at_call 86
    refine (HCL.out _ (H3.out.trans (Ext.refl [] w3).drew)).mono ?_
    rintro e w4 ⟨v', rfl, hE4, ho⟩
    obtain ⟨co, cc, rfl, _, _, _⟩ := ho.at (N := N)
    have hX4 : Ext [] w3 w4 := (Ext.refl [] w3).drew.trans hE4
    have HO := Lib.hid ho
    rw [HNL.out.1] at HO ⊢
    refine hK _ _ (fun _ => hX4) ?_
    clear hK K hE4 ho
    try simp only [Act.put, List.setIfInBounds_toArray, List.set_cons_zero, List.set_cons_succ]
    have H4 := Lib.hid hX4
    clear hX4
    refine wpPl_tl rfl (by rfl) (fun K hK => ?_)
    refine of_step (by rfl) (step_append_any (ops := #[]) (E := True) (by rfl) (.tmp 36) (.tmp 37) 75 (by rfl) _ 82 i0 (.agg #[.int .i64 0, .int .i64 0, .int .u64 0]) 3 24 Try.underlying75 hI1.out hI2.out hI3.out hI4.out rfl (by omega) (.slice co nl cc) L.length (rowC (tR L) L.length) (by rfl) (by have := HO.out; unfold TcOwn at this; exact this) mo nm mc (rowC (tR M) M.length) (by rfl) (by rw [← HNL.out.2.2]; exact (HM0.out.ext0 (H3.out.trans H4.out)).src) ?_ ?_ ?_ ?_)
    · have := H0.out.2.2.2.2.2.2.2.2
      have := HNL.out
      unfold maxLen
      omega
    · have := H0.out.2.2.2.2.2.2.2.2
      have := HNL.out
      omega
    · exact H4.out.size
    intro v5 w5 ho5 hE5 hX5
    have hX5' : Ext [] w3 w5 := hX5 w3 H4.out (Nat.le_refl _)
    have ho6 : TcOwn w5 w3.drew.heap.size v5 (L ++ M) := by
      unfold TcOwn
      rw [tR_append, List.length_append, HNL.out.1, HNL.out.2.2]
      rw [HNL.out.1, HNL.out.2.2] at ho5
      exact ho5
    obtain ⟨vo, vc, rfl, hT5, hT5c, _⟩ := ho6.at (N := N)
    rw [HLEN.out, HNL.out.1, HNL.out.2.2] at hT5c ⊢
    refine hK _ _ (fun _ => hX5') ?_
    clear hK K
    try simp only [Act.put, List.setIfInBounds_toArray, List.set_cons_zero, List.set_cons_succ]
    have hb5 := hX5'.at (H3.out.at H0.out.2.2.2.1 (by simp)) (by simp)
    have k0' := cell_of (j := 0) (v := .slice lo nl lc) hb5 (by rw [← HNL.out.1]; rfl)
    have f0' := free_of hb5 0
    have H5 := Lib.hid (And.intro hX5' (And.intro hb5 (And.intro hT5 hT5c)))
    clear ho5 hE5 hX5 hX5' ho6 hT5 hT5c hb5
    refine wpPl_tl rfl (by rfl) (fun K hK => ?_)
    go_simp
    refine hK _ _ (fun _ => H5.out.1) ?_
    clear hK K
    try simp only [Act.put, List.setIfInBounds_toArray, List.set_cons_zero, List.set_cons_succ]
    refine wpPl_tl rfl (by rfl) (fun K hK => ?_)
    go_simp
    refine hK _ _ (fun _ => H5.out.1) ?_
    clear hK K
    try simp only [Act.put, List.setIfInBounds_toArray, List.set_cons_zero, List.set_cons_succ]
    refine wpPl_tl rfl (by rfl) (fun K hK => ?_)
    go_simp
    refine hK _ _ (fun _ => H5.out.1) ?_
    clear hK K
    try simp only [Act.put, List.setIfInBounds_toArray, List.set_cons_zero, List.set_cons_succ]
    refine wpPl_last rfl (by rfl) ?_
    go_simp
    go_wp2
    go_ret
    unfold ThenP
    rw [HTT.out, if_pos rfl]
    have hE6 : Ext [f] w5 (w5.setCell ⟨f, 0, none⟩ (.slice vo (nl + nm) vc)) := (Ext.refl [f] w5).setCell (.inl (by simp)) _
    have hno : NoTc w5 N [f] := fun q hq => by
      simp at hq
      subst hq
      exact .inr ⟨H0.out.2.2.1, fun cur hb => by rw [H5.out.2.1] at hb; simp at hb⟩
    refine ⟨rfl, ⟨H0.out.2.2.1, vo, vc, po, pc, ?_, H5.out.2.2.1.ext hE6 hno, (H0.out.2.2.2.2.2.1.ext0 (H3.out.trans H5.out.1)).ext hE6 hno, by rw [HLEN.out, HNL.out.1, HNL.out.2.2]; exact H5.out.2.2.2⟩, ((H0.out.1.trans (H3.out.trans H5.out.1)).wide).trans hE6⟩
    rw [HLEN.out, HNL.out.1, HNL.out.2.2]
    exact block_set3 H5.out.2.1 _
  · have hne : (te == 0) = false := by simpa using h0
    have HH := Lib.hid h0
    clear h0
    go_wp2
    go_ret
    unfold ThenP
    rw [HTT.out, if_neg HH.out]
    refine ⟨rfl, HF.out.ext0 H3.out, ?_⟩
    exact (H0.out.1.trans H3.out).wide
end Go.Proofs.Ytfojmjkcjdehaaa
