/- slices.Concat of two lists of ints; Limbo.add (printed by wip/mkLmD.py). -/
import Derived.Test.YtgpoplnfhlfogaaLmC
import Derived.Shelf.Spec.SlicesGrow
namespace Go.Proofs.Ytgpoplnfhlfogaa
open Go Go.RowKit Go.Shelf
attribute [local go_sem] Oper.semAt_some

shelf_lay_g Lays8.n4 Nm8 4 at Try 117 as growA

theorem lm_grow (n : Nat) (w : World) (hn : n ≤ 1000000) : Calls Try.prog 117 #[.slice none 0 0, .int .i64 n] w fun e w' => ∃ v, e = .returned v ∧ w'.ownsRow w.heap.size 3 1 v 0 [] ∧ Ext [] w w' := by
  obtain ⟨i0, hi, hz0, hz1, hz2⟩ := info_parts infoInt
  by_cases h0 : n = 0
  · subst h0
    refine (Any8.slices_Grow_room growA none 0 0 0 w (by omega) (by omega) (by omega) (by omega)).mono ?_
    rintro e w' ⟨rfl, rfl⟩
    exact ⟨_, rfl, World.ownsRow_nil _ _ _ _, Ext.refl _ _⟩
  · refine (Any8.slices_Grow_grow growA i0 (.int .i64 0) hi hz0 (by omega) none 0 0 n [] w (by omega) (by omega) (by rw [hz2]; omega) (by omega) (by simp) (fun _ => rfl) (fun a ha => by cases ha)).mono ?_
    rintro e w' ⟨rfl, rfl⟩
    refine ⟨_, rfl, ?_, (Ext.refl [] w).drew.alloc _⟩
    have hg := grownCap_le_maxLen w (0 + n) 0 3 (by unfold maxLen; omega)
    refine ⟨by simp, .inr ⟨w.heap.size, _, _, rfl, Nat.le_refl _, World.alloc_heap_new w.drew _, Nat.zero_le _, hg, ?_, by simp⟩⟩
    have hge := grownCap_ge w (0 + n) 0 3
    simp [Builtin.zeroCells]
    rw [show (Value.int .i64 0).cells.size = 1 from rfl, Nat.mul_one, Nat.mul_one]
    have he : grownCap w n 0 (growA_ren.t 25) = grownCap w (0 + n) 0 3 := by rw [Nat.zero_add]; rfl
    rw [he]
    omega
theorem rowSrc_of {w : World} {ao : Option Addr} {L : List Int} (h : IntsB w ao L.length (fun i => L.getD i 0)) : RowSrc w ao L.length 1 (intL L) := by
  unfold intL
  cases ao with
  | none =>
    rcases h with h | ⟨b, off, h1, _⟩
    · exact .inl ⟨rfl, h, by rw [List.length_eq_zero_iff.1 h]; rfl⟩
    · cases h1
  | some ad =>
    refine .inr ⟨ad, rfl, by simp, fun j u hj => ?_, fun u hu => ?_⟩
    · have hjl : j < L.length := by have := (List.getElem?_eq_some_iff.1 hj).1; simpa using this
      rcases h with h | ⟨b, off, h1, h2⟩
      · omega
      · cases h1
        have := h2 j hjl
        rw [show (⟨b, off, none⟩ : Addr).add j = ⟨b, off + j, none⟩ from by unfold Addr.add; split <;> simp_all, this]
        rw [List.getElem?_map] at hj
        simp [hjl] at hj ⊢
        exact hj
    · obtain ⟨x, _, rfl⟩ := List.mem_map.1 hu
      rfl
theorem intsB_of {w : World} {base : Nat} {v : Value} {n : Nat} {L : List Int} (hn : n = L.length) (h : w.ownsRow base 3 1 v n (intL L)) :
    ∃ ao cap, v = .slice ao L.length cap ∧ IntsB w ao L.length (fun i => L.getD i 0) ∧ ∀ p, ao = some p → base ≤ p.block ∧ p.block < w.heap.size := by
  obtain ⟨ao, cap, h1, h2, h3⟩ := IntsAt.of_owns hn h
  refine ⟨ao, cap, h1, ?_, h3⟩
  by_cases h0 : L.length = 0
  · exact .inl h0
  · obtain ⟨g, off, e1, _⟩ := h2 0 (by omega)
    refine .inr ⟨g, off, e1, fun i hi => ?_⟩
    obtain ⟨g2, off2, f1, f2⟩ := h2 i hi
    rw [e1] at f1
    cases f1
    exact f2
set_option maxRecDepth 100000 in
set_option maxHeartbeats 4000000 in
theorem lm_concat (bl : Nat) (a1 a2 : Option Addr) (c1 c2 : Nat) (L1 L2 : List Int) (T : TypeId) (f : Nat × Nat) (w : World) (hb : w.heap[bl]? = some (.cells #[.slice a1 L1.length c1, .slice a2 L2.length c2] T f))
    (h1 : IntsB w a1 L1.length (fun i => L1.getD i 0)) (h2 : IntsB w a2 L2.length (fun i => L2.getD i 0)) (hn1 : L1.length ≤ 400000) (hn2 : L2.length ≤ 400000) :
    Calls Try.prog 112 #[.slice (some ⟨bl, 0, none⟩) 2 2] w fun e w' => ∃ ao cap, e = .returned (.slice ao (L1 ++ L2).length cap) ∧ IntsB w' ao (L1 ++ L2).length (fun i => (L1 ++ L2).getD i 0) ∧ Ext [] w w' ∧ ∀ q, ao = some q → w.heap.size ≤ q.block ∧ q.block < w'.heap.size := by
  obtain ⟨i0, hi, hz0, hz1, hz2⟩ := info_parts infoInt
  have k1 := cell_of (j := 0) hb rfl
  have k2 := cell_of (j := 1) hb rfl
  have r1 := rowSrc_of h1
  have r2 := rowSrc_of h2
  have hbl := lt_of_block hb
  obtain ⟨n1, hm1⟩ : ∃ n1, L1.length = n1 := ⟨_, rfl⟩
  obtain ⟨n2, hm2⟩ : ∃ n2, L2.length = n2 := ⟨_, rfl⟩
  rw [hm1] at k1 r1 hn1
  rw [hm2] at k2 r2 hn2
  have hw1 : wrap64 ((n1 : Int)) = (n1 : Int) := IntWalk.wrap64_in _ (by omega)
  have hw2 : wrap64 ((n1 : Int) + (n2 : Int)) = ((n1 + n2 : Nat) : Int) := by rw [IntWalk.wrap64_in _ (by omega)]; omega
  have HG := Lib.hid (lm_grow (n1 + n2) w (by omega))
  rw [show ((n1 + n2 : Nat) : Int) = (n1 : Int) + (n2 : Int) from by omega] at HG hw2
  have H := Lib.hid (And.intro hb (And.intro r1 (And.intro r2 (And.intro hm1 (And.intro hm2 (And.intro hn1 hn2))))))
  clear hb h1 h2 r1 r2 hm1 hm2
  go_enter Try.func112, Try.ntmps112
  go_wp2_with fail
  refine wp_loop_rounds 3 ?_
  rw [rounds_succ]
  go_wp2_with fail
  rw [rounds_succ]
  go_wp2_with fail
  rw [rounds_succ]
  go_wp2_with fail
  refine HG.out.mono ?_
  rintro e w1 ⟨v, rfl, ho, hE1⟩
  obtain ⟨ao0, cap0, rfl⟩ := slice_of_owns ho
  have k1 := hE1.cell (cell_of (j := 0) (v := .slice a1 L1.length c1) H.out.1 rfl) (by simp)
  have k2 := hE1.cell (cell_of (j := 1) (v := .slice a2 L2.length c2) H.out.1 rfl) (by simp)
  rw [H.out.2.2.2.1] at k1
  rw [H.out.2.2.2.2.1] at k2
  have HR1 := Lib.hid (H.out.2.1.ext hE1 (fun _ _ => by simp))
  have HS1 := Lib.hid hE1.size
  have H1 := Lib.hid hE1
  clear hE1
  go_wp2_with fail
  refine wp_loop_rounds 3 ?_
  rw [rounds_succ]
  go_wp2_with (at_builtin; refine wpList_append_any rfl _ _ 43 rfl w.heap.size 3 i0 (.int .i64 0) 1 8 Try.underlying43 hi hz0 hz1 hz2 rfl (by decide) _ 0 [] rfl ho a1 n1 c1 (intL L1) rfl HR1.out (by unfold maxLen; omega) (by omega) HS1.out ?_)
  intro v1 w2 ho1 hE2 hx2
  have hX2 : Ext [] w w2 := H1.out.trans' hE2 (fun g hg => .inr (by simp only [Option.mem_toList] at hg; exact (ho.lt g hg).1))
  obtain ⟨ao1, cap1, rfl⟩ := slice_of_owns ho1
  have HR2 := Lib.hid (H.out.2.2.1.ext hX2 (fun _ _ => by simp))
  have HS2 := Lib.hid hX2.size
  have H2 := Lib.hid hX2
  have HO2 := Lib.hid ho1
  have k2 := hX2.cell (cell_of (j := 1) (v := .slice a2 L2.length c2) H.out.1 rfl) (by simp)
  rw [H.out.2.2.2.2.1] at k2
  clear hE2 hx2 hX2 ho
  go_wp2_with fail
  rw [rounds_succ]
  go_wp2_with (at_builtin; refine wpList_append_any rfl _ _ 43 rfl w.heap.size 3 i0 (.int .i64 0) 1 8 Try.underlying43 hi hz0 hz1 hz2 rfl (by decide) _ _ _ rfl HO2.out a2 n2 c2 (intL L2) rfl HR2.out (by unfold maxLen; omega) (by omega) HS2.out ?_)
  intro v2 w3 ho2 hE3 hx3
  have hX3 : Ext [] w w3 := H2.out.trans' hE3 (fun g hg => .inr (by simp only [Option.mem_toList] at hg; exact (HO2.out.lt g hg).1))
  obtain ⟨ao2, cap2, rfl⟩ := slice_of_owns ho2
  have H3 := Lib.hid (And.intro hX3 ho2)
  clear hE3 hx3 hX3 ho2 ho1
  go_wp2_with fail
  rw [rounds_succ]
  go_wp2
  go_ret
  obtain ⟨ao, cap, he, hI, hbk⟩ := intsB_of (L := L1 ++ L2) (by first | (rw [List.length_append, H.out.2.2.2.1, H.out.2.2.2.2.1]; done) | (rw [List.length_append, H.out.2.2.2.1, H.out.2.2.2.2.1]; omega)) (by have := H3.out.2; simpa [intL] using this)
  exact ⟨ao, cap, by rw [← he]; rfl, hI, H3.out.1, hbk⟩
/-- one list laid anew -/
def gon (G : Nat → List Int) (q : Nat) (L : List Int) : Nat → List Int := fun k => if k = q then L else G k
def gaN (ga : Nat → Option Addr) (q : Nat) (ao : Option Addr) : Nat → Option Addr := fun k => if k = q then ao else ga k
def gcN (gc : Nat → Nat) (q : Nat) (cap : Nat) : Nat → Nat := fun k => if k = q then cap else gc k
set_option maxRecDepth 100000 in
set_option maxHeartbeats 4000000 in
theorem lm_add (b c m p mb : Nat) (lo : Int) (n : Nat) (now : Int) (l : Ents) (S : Lns) (G : Nat → List Int) (ga : Nat → Option Addr) (gc : Nat → Nat) (q : Nat) (ao : Option Addr) (cap : Nat) (L2 : List Int) (w : World) (h : LimAt w b c m p mb lo n now l S G ga gc) (hq : q < 3) (h2 : IntsB w ao L2.length (fun i => L2.getD i 0)) (hn1 : (G q).length ≤ 400000) (hn2 : L2.length ≤ 400000) :
    Calls Try.prog 87 #[.pointer (some ⟨b, 0, none⟩), .int .i64 q, .slice ao L2.length cap] w fun e w' => e = .returned (.tuple #[]) ∧ Ext [b] w w' ∧ ∃ ao' cap', LimAt w' b c m p mb lo n now l S (gon G q (G q ++ L2)) (gaN ga q ao') (gcN gc q cap') ∧ ∀ x, ao' = some x → w.heap.size ≤ x.block := by
  have hcell := cell_of (j := 2 + q) h.blk (limC_get c p G ga gc q hq)
  obtain ⟨M, hM⟩ : ∃ M, G q = M := ⟨_, rfl⟩
  obtain ⟨a1, ha1⟩ : ∃ a1, ga q = a1 := ⟨_, rfl⟩
  obtain ⟨c1, hc1⟩ : ∃ c1, gc q = c1 := ⟨_, rfl⟩
  have hg := h.gone q hq
  rw [hM, ha1] at hg
  rw [hM, ha1, hc1] at hcell
  rw [hM] at hn1 ⊢
  have HR : Hid (∀ X, Ext [b] w X → w.heap.size ≤ X.heap.size) := fun X hX => hX.size
  have HRC : Hid (∀ X, Ext [] w X → X.cell? ⟨b, 2 + q, none⟩ = some (.slice a1 M.length c1)) := fun X hX => hX.cell hcell (by simp)
  have hq0 : (0 : Int) ≤ (q : Int) := by omega
  have hq3 : (q : Int) < 3 := by omega
  have HL := Lib.hid (And.intro h (And.intro hg (And.intro h2 (And.intro hn1 (And.intro hn2 hq)))))
  obtain ⟨m1, hm1⟩ : ∃ m1, M.length = m1 := ⟨_, rfl⟩
  obtain ⟨m2, hm2⟩ : ∃ m2, L2.length = m2 := ⟨_, rfl⟩
  have HML := Lib.hid (And.intro hm1 hm2)
  rw [hm1] at HRC
  rw [hm2]
  clear hcell hg h2 hn1 hn2 h hm1 hm2 hM ha1 hc1
  go_enter Try.func87, Try.ntmps87
  go_upto_region 0 with fail
  refine wp_mono (Q := NoPanic _) ?_ NoPanic.out
  refine wp_region_p4 [14] (hds4 [0, 1, 2, 3, 4, 5, 6, 7, 8, 11, 12] (.tl 9 (.tl 10 (hds4 [13] (.tl 14 .done))))) (Ext [] w) (by kernel_rfl) (by kernel_rfl) (fun _ d _ _ _ h => by cases d <;> exact h) (Ext.refl _ _).drew ?_
  repeat (first
    | (refine wpPl_no4 rfl (by rfl) ?_; simp only [Act.put, List.setIfInBounds_toArray, List.set_cons_zero, List.set_cons_succ])
    | (refine wpPl_hd4 ?_ rfl (by rfl) (fun w hSw => ?_) ?_
       rotate_left
       · (have g1 := HRC.out _ hSw; clear hSw; go_simp; first | exact ⟨rfl, rfl⟩ | exact rfl)
       simp only [Act.put, List.setIfInBounds_toArray, List.set_cons_zero, List.set_cons_succ]))
  refine wpPl_tl4 rfl (by rfl) (fun K hK => ?_)
  go_simp
  obtain ⟨W1, hW1⟩ : ∃ W1, (w.alloc (.cells #[.slice a1 m1 c1, .slice ao m2 cap] 43)).drew = W1 := ⟨_, rfl⟩
  have hE1 : Ext [] w W1 := by rw [← hW1]; exact ((Ext.refl _ _).alloc _).drew
  have hb1 : W1.heap[w.heap.size]? = some (.cells #[.slice a1 m1 c1, .slice ao m2 cap] 43 (0, 0)) := by rw [← hW1]; exact World.alloc_heap_new w _
  have H1 := Lib.hid (And.intro hE1 hb1)
  try rw [hW1]
  refine hK _ _ (fun _ => H1.out.1) ?_
  clear hK K hE1 hb1 hW1
  try simp only [Act.put, List.setIfInBounds_toArray, List.set_cons_zero, List.set_cons_succ]
  refine wpPl_tl4 rfl (by rfl) (fun K hK => ?_)
  go_simp
  go_at_call 112
  refine (lm_concat w.heap.size a1 ao c1 cap M L2 43 (0, 0) W1 (by rw [HML.out.1, HML.out.2]; exact H1.out.2) (HL.out.2.1.ext H1.out.1) (HL.out.2.2.1.ext H1.out.1) HL.out.2.2.2.1 HL.out.2.2.2.2.1).mono ?_
  rintro e W2 ⟨ao', cap', rfl, hI2, hE2, hb2⟩
  have hX2 := H1.out.1.trans hE2
  have hL2 := HL.out.1.ext0 hX2
  have k5 := cell_of (j := 2 + q) hL2.blk (limC_get c p G ga gc q HL.out.2.2.2.2.2)
  have f5 := free_of hL2.blk (2 + q)
  have H2 := Lib.hid (And.intro hX2 (And.intro hL2 (And.intro hI2 (show ∀ x, ao' = some x → w.heap.size ≤ x.block ∧ x.block < W2.heap.size from fun x hx => ⟨Nat.le_trans H1.out.1.size (hb2 x hx).1, (hb2 x hx).2⟩))))
  refine hK _ _ (fun _ => H2.out.1) ?_
  clear hK K hX2 hL2 hI2 hE2 hb2
  try simp only [Act.put, List.setIfInBounds_toArray, List.set_cons_zero, List.set_cons_succ]
  obtain ⟨ml, hml⟩ : ∃ ml, (M ++ L2).length = ml := ⟨_, rfl⟩
  repeat (first
    | (refine wpPl_no4 rfl (by rfl) ?_; simp only [Act.put, List.setIfInBounds_toArray, List.set_cons_zero, List.set_cons_succ])
    | (refine wpPl_hd4 ?_ rfl (by rfl) (fun w hSw => ?_) ?_
       rotate_left
       · (clear hSw; go_simp; first | exact ⟨rfl, rfl⟩ | exact rfl)
       simp only [Act.put, List.setIfInBounds_toArray, List.set_cons_zero, List.set_cons_succ]))
  refine wpPl_late4 rfl (by rfl) (by decide) (fun K hK => ?_)
  go_simp
  refine hK _ _ ?_
  clear hK K
  try simp only [Act.put, List.setIfInBounds_toArray, List.set_cons_zero, List.set_cons_succ]
  refine wpPl_done4 ?_
  go_wp2
  unfold NoPanic
  go_end0
  have hfin := (H2.out.2.1.listed HL.out.2.2.2.2.2 H2.out.2.2.1 (cap := cap') (fun x hx => ?_))
  · rw [hml] at hfin
    exact ⟨rfl, (H2.out.1.wide).setCell (.inl (by simp)) _, ao', cap', hfin, fun x hx => (H2.out.2.2.2 x hx).1⟩
  · have h1 := H2.out.2.2.2 x hx
    have hlt := HL.out.1.lt
    have e1 := hlt b (.inl rfl)
    have e2 := hlt c (.inr (.inl rfl))
    have e3 := hlt m (.inr (.inr (.inl rfl)))
    have e4 := hlt p (.inr (.inr (.inr (.inl rfl))))
    have e5 := hlt mb (.inr (.inr (.inr (.inr (.inl rfl)))))
    exact ⟨h1.2, by omega, by omega, by omega, by omega, by omega⟩
end Go.Proofs.Ytgpoplnfhlfogaa
