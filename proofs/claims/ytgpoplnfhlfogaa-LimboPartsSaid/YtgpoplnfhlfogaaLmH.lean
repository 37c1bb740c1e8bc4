/- Package limbo: Same, of two that are (printed by wip/mkLmH.py). -/
import Derived.Test.YtgpoplnfhlfogaaLmG
namespace Go.Proofs.Ytgpoplnfhlfogaa
open Go Go.RowKit Go.Shelf
attribute [local go_sem] Oper.semAt_some

theorem putK_vals (a : Int) : ∀ (L : List Int) (E : Ents), (∀ p ∈ E, ∃ x, p.2 = .int .i64 x) → ∀ p ∈ putK E a L, ∃ x, p.2 = .int .i64 x
  | [], _, h => h
  | k :: L, E, h => putK_vals a L (upd E k (.int .i64 a)) (fun p hp => by
    rcases mem_upd _ _ _ _ hp with rfl | hp
    · exact ⟨a, rfl⟩
    · exact h p hp)
theorem waitsK_vals (G : Nat → List Int) (a : Nat) : ∀ j, ∀ p ∈ waitsK G a j, ∃ x, p.2 = .int .i64 x
  | 0 => fun p hp => by cases hp
  | j + 1 => putK_vals _ _ _ (waitsK_vals G a j)
theorem putK_nodup (a : Int) : ∀ (L : List Int) (E : Ents), (keysOf E).Nodup → (keysOf (putK E a L)).Nodup
  | [], _, h => h
  | k :: L, E, h => putK_nodup a L (upd E k (.int .i64 a)) (nodup_upd _ _ _ h)
theorem waitsK_nodup (G : Nat → List Int) (a : Nat) : ∀ j, (keysOf (waitsK G a j)).Nodup
  | 0 => List.nodup_nil
  | j + 1 => putK_nodup _ _ _ (waitsK_nodup G a j)
theorem sameE_refl {l : Ents} (hn : (keysOf l).Nodup) (hv : ∀ p ∈ l, ∃ x, p.2 = .int .i64 x) : sameE l l = true := by
  unfold sameE
  rw [Bool.and_eq_true, decide_eq_true_eq, List.all_eq_true]
  refine ⟨rfl, fun p hp => ?_⟩
  obtain ⟨x, hx⟩ := hv p hp
  have := look_of_mem _ _ _ hn (show (p.1, p.2) ∈ l from hp)
  unfold eqAt
  rw [this, hx]
  exact beq_self_eq_true x
set_option maxRecDepth 100000 in
set_option maxHeartbeats 8000000 in
theorem lm_SameT (b c m p mb : Nat) (lo : Int) (n : Nat) (now : Int) (l : Ents) (S : Lns) (G : Nat → List Int) (ga : Nat → Option Addr) (gc : Nat → Nat) (b2 c2 m2 p2 mb2 : Nat) (ga2 : Nat → Option Addr) (gc2 : Nat → Nat) (w : World) (h : LimAt w b c m p mb lo n now l S G ga gc) (h2 : LimAt w b2 c2 m2 p2 mb2 lo n now l S G ga2 gc2) (hl0 : 0 ≤ now) (hl1 : now ≤ 1073741824) (hG : ∀ k, k < 3 → (G k).length ≤ 400000) (hv : ∀ x ∈ l, ∃ n, x.2 = .int .i64 n) (hlo : -1000000000 ≤ lo ∧ lo + n ≤ 1000000000) :
    Calls Try.prog 50 #[.pointer (some ⟨b, 0, none⟩), .pointer (some ⟨b2, 0, none⟩)] w fun e w' => e = .returned (.bool true) ∧ Ext [] w w' := by
  have HN1 := Lib.hid (lm_none b c m p mb lo n now l S G ga gc w h)
  have HN2 := Lib.hid (lm_none b2 c2 m2 p2 mb2 lo n now l S G ga2 gc2 w h2)
  have HR : Hid (∀ X, Ext [] w X → X.cell? ⟨b, 0, none⟩ = some (.pointer (some ⟨c, 0, none⟩)) ∧ X.cell? ⟨b, 1, none⟩ = some (.pointer (some ⟨p, 0, none⟩)) ∧ X.cell? ⟨b2, 0, none⟩ = some (.pointer (some ⟨c2, 0, none⟩)) ∧ X.cell? ⟨b2, 1, none⟩ = some (.pointer (some ⟨p2, 0, none⟩))) := fun X hX =>
    ⟨hX.cell (cell_of (j := 0) h.blk rfl) (by simp), hX.cell (cell_of (j := 1) h.blk rfl) (by simp), hX.cell (cell_of (j := 0) h2.blk rfl) (by simp), hX.cell (cell_of (j := 1) h2.blk rfl) (by simp)⟩
  have HS1 : Hid (∀ X, Ext [] w X → Calls Try.prog 30 #[.pointer (some ⟨p, 0, none⟩), .pointer (some ⟨p2, 0, none⟩)] X fun e w' => e = .returned (.bool true) ∧ Ext [] X w') := fun X hX => by
    have := al_Same p p2 mb mb2 lo n S S X hlo.1 hlo.2 (h.ext0 hX).pool (h2.ext0 hX).pool
    rwa [sameB_refl (fun _ _ => rfl)] at this
  have HS2 : Hid (∀ X, Ext [] w X → Calls Try.prog 56 #[.pointer (some ⟨c, 0, none⟩), .pointer (some ⟨c2, 0, none⟩)] X fun e w' => e = .returned (.bool true) ∧ Ext [] X w') := fun X hX => by
    have := ep_Same c m c2 m2 now now l l X (h.ext0 hX).clk (h2.ext0 hX).clk hv hv
    rwa [show sameC now now l l = true from by unfold sameC; rw [sameE_refl h.clk.2.nodup hv]; simp] at this
  have HW1 : Hid (∀ X, Ext [] w X → Calls Try.prog 94 #[.pointer (some ⟨b, 0, none⟩)] X fun e w' => ∃ nb, e = .returned (.map (some nb)) ∧ Ext [] X w' ∧ IMap w' nb (waitsE now G) ∧ X.heap.size ≤ nb) := fun X hX => lm_waits b c m p mb lo n now l S G ga gc X (h.ext0 hX) hl0 hl1 (fun k hk => by have := hG k hk; omega)
  have HW2 : Hid (∀ X, Ext [] w X → Calls Try.prog 94 #[.pointer (some ⟨b2, 0, none⟩)] X fun e w' => ∃ nb, e = .returned (.map (some nb)) ∧ Ext [] X w' ∧ IMap w' nb (waitsE now G) ∧ X.heap.size ≤ nb) := fun X hX => lm_waits b2 c2 m2 p2 mb2 lo n now l S G ga2 gc2 X (h2.ext0 hX) hl0 hl1 (fun k hk => by have := hG k hk; omega)
  clear h h2 hG hv
  go_enter Try.func50, Try.ntmps50
  go_wp2_with fail
  refine HN1.out.mono ?_
  rintro e w' ⟨rfl, rfl⟩
  go_wp2_with fail
  refine HN2.out.mono ?_
  rintro e w' ⟨rfl, rfl⟩
  go_upto_region 3 with fail
  refine wp_mono (Q := Exit.then _ (NoPanic _)) ?_ then_np'
  refine wp_region_p4 [] (hds4 [0, 1, 2, 3, 4, 5, 6, 7] (.tl 8 (hds4 [9, 10, 11, 12, 13, 14, 15, 16, 17, 18, 19] (.tl 20 (hds4 [21, 22, 23, 25] (.tl 24 (.tl 26 (.tl 27 (hds4 [28] (.tl 29 .done)))))))))) (Ext [] w) (by kernel_rfl) (by kernel_rfl) (fun _ d _ _ _ h => by cases d <;> exact h) (Ext.refl _ _).drew ?_
  repeat (first
    | (refine wpPl_no4 rfl (by rfl) ?_; simp only [Act.put, List.setIfInBounds_toArray, List.set_cons_zero, List.set_cons_succ])
    | (refine wpPl_hd4 ?_ rfl (by rfl) (fun w hSw => ?_) ?_
       rotate_left
       · (obtain ⟨g1, g2, g3, g4⟩ := HR.out _ hSw; clear hSw; go_simp; first | exact ⟨rfl, rfl⟩ | exact rfl)
       simp only [Act.put, List.setIfInBounds_toArray, List.set_cons_zero, List.set_cons_succ]))
  refine wpPl_tl4 rfl (by rfl) (fun K hK => ?_)
  go_simp
  go_at_call 30
  refine (HS1.out _ (Ext.refl _ _).drew).mono ?_
  rintro e W1 ⟨rfl, hE1⟩
  have H1 := Lib.hid (show Ext [] w W1 from (Ext.refl [] w).drew.trans hE1)
  refine hK _ _ (fun _ => H1.out) ?_
  clear hK K hE1
  try simp only [Act.put, List.setIfInBounds_toArray, List.set_cons_zero, List.set_cons_succ]
  repeat (first
    | (refine wpPl_no4 rfl (by rfl) ?_; simp only [Act.put, List.setIfInBounds_toArray, List.set_cons_zero, List.set_cons_succ])
    | (refine wpPl_hd4 ?_ rfl (by rfl) (fun w hSw => ?_) ?_
       rotate_left
       · (obtain ⟨g1, g2, g3, g4⟩ := HR.out _ hSw; clear hSw; go_simp; first | exact ⟨rfl, rfl⟩ | exact rfl)
       simp only [Act.put, List.setIfInBounds_toArray, List.set_cons_zero, List.set_cons_succ]))
  refine wpPl_tl4 rfl (by rfl) (fun K hK => ?_)
  go_simp
  go_at_call 56
  refine (HS2.out _ H1.out).mono ?_
  rintro e W2 ⟨rfl, hE2⟩
  have H2 := Lib.hid (H1.out.trans hE2)
  refine hK _ _ (fun _ => H2.out) ?_
  clear hK K hE2
  try simp only [Act.put, List.setIfInBounds_toArray, List.set_cons_zero, List.set_cons_succ]
  repeat (first
    | (refine wpPl_no4 rfl (by rfl) ?_; simp only [Act.put, List.setIfInBounds_toArray, List.set_cons_zero, List.set_cons_succ])
    | (refine wpPl_hd4 ?_ rfl (by rfl) (fun w hSw => ?_) ?_
       rotate_left
       · (obtain ⟨g1, g2, g3, g4⟩ := HR.out _ hSw; clear hSw; go_simp; first | exact ⟨rfl, rfl⟩ | exact rfl)
       simp only [Act.put, List.setIfInBounds_toArray, List.set_cons_zero, List.set_cons_succ]))
  refine wpPl_tl4 rfl (by rfl) (fun K hK => ?_)
  go_simp
  go_at_call 94
  refine (HW1.out _ H2.out).mono ?_
  rintro e W3 ⟨nb1, rfl, hE3, hM1, _⟩
  have H3 := Lib.hid (And.intro (H2.out.trans hE3) hM1)
  refine hK _ _ (fun _ => H3.out.1) ?_
  clear hK K hE3 hM1
  try simp only [Act.put, List.setIfInBounds_toArray, List.set_cons_zero, List.set_cons_succ]
  refine wpPl_tl4 rfl (by rfl) (fun K hK => ?_)
  go_simp
  go_at_call 94
  refine (HW2.out _ H3.out.1).mono ?_
  rintro e W4 ⟨nb2, rfl, hE4, hM2, _⟩
  have H4 := Lib.hid (And.intro (H3.out.1.trans hE4) (And.intro (H3.out.2.ext hE4 (by simp)) hM2))
  refine hK _ _ (fun _ => H4.out.1) ?_
  clear hK K hE4 hM2
  try simp only [Act.put, List.setIfInBounds_toArray, List.set_cons_zero, List.set_cons_succ]
  refine wpPl_tl4 rfl (by rfl) (fun K hK => ?_)
  go_simp
  go_at_call 93
  refine (ep_Equal nb1 nb2 _ _ W4 H4.out.2.1 H4.out.2.2 (waitsK_vals _ _ _) (waitsK_vals _ _ _)).mono ?_
  rintro e W5 ⟨rfl, hE5⟩
  rw [show sameE (waitsE now G) (waitsE now G) = true from sameE_refl (waitsK_nodup _ _ _) (waitsK_vals _ _ _)]
  have H5 := Lib.hid (H4.out.1.trans hE5)
  refine hK _ _ (fun _ => H5.out) ?_
  clear hK K hE5
  try simp only [Act.put, List.setIfInBounds_toArray, List.set_cons_zero, List.set_cons_succ]
  repeat (first
    | (refine wpPl_no4 rfl (by rfl) ?_; simp only [Act.put, List.setIfInBounds_toArray, List.set_cons_zero, List.set_cons_succ])
    | (refine wpPl_hd4 ?_ rfl (by rfl) (fun w hSw => ?_) ?_
       rotate_left
       · (obtain ⟨g1, g2, g3, g4⟩ := HR.out _ hSw; clear hSw; go_simp; first | exact ⟨rfl, rfl⟩ | exact rfl)
       simp only [Act.put, List.setIfInBounds_toArray, List.set_cons_zero, List.set_cons_succ]))
  refine wpPl_tl4 rfl (by rfl) (fun K hK => ?_)
  go_simp
  refine hK _ _ (fun _ => H5.out) ?_
  clear hK K
  try simp only [Act.put, List.setIfInBounds_toArray, List.set_cons_zero, List.set_cons_succ]
  refine wpPl_done4 ?_
  go_wp2
  go_ret
  exact ⟨rfl, H5.out⟩
end Go.Proofs.Ytgpoplnfhlfogaa
