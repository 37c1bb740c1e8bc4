/- Package limbo: asked, Take, Pin, Unpin, Taken (printed by wip/mkLmB.py). -/
import Derived.Test.YtgpoplnfhlfogaaLmA
namespace Go.Proofs.Ytgpoplnfhlfogaa
open Go Go.RowKit Go.Shelf
attribute [local go_sem] Oper.semAt_some
set_option maxHeartbeats 400000 in
theorem lm_askedL (b K : Nat) (lb : Array Value) (w : World) (R : Value → Value → World → Prop) (hN : Calls Try.prog 86 #[.pointer (some ⟨b, 0, none⟩)] w fun e w' => e = .returned (.bool false) ∧ w = w')
    (hcf : ∀ w', (callFunc K lb).run Try.prog w' = .ok (.enter K lb) w') (hK : Calls Try.prog K lb w fun e w' => ∃ v u, e = .returned (.tuple #[v, u]) ∧ R v u w') :
    Calls Try.prog 84 #[.pointer (some ⟨b, 0, none⟩), .func (.func K) #[] lb] w fun e w' => ∃ v u, e = .returned (.tuple #[v, u]) ∧ R v u w' := by
  have HN := Lib.hid hN
  have HK := Lib.hid hK
  clear hN hK
  go_enter Try.func84, Try.ntmps84
  go_wp2_with fail
  refine HN.out.mono ?_
  rintro e w' ⟨rfl, rfl⟩
  go_wp2_with fail
  refine HK.out.mono ?_
  rintro e w' ⟨v, u, rfl, hR⟩
  go_wp2
  go_ret2
  exact ⟨v, u, rfl, hR⟩
set_option maxHeartbeats 400000 in
theorem lm_askedI (b K : Nat) (lb : Array Value) (w : World) (R : Value → Value → World → Prop) (hN : Calls Try.prog 86 #[.pointer (some ⟨b, 0, none⟩)] w fun e w' => e = .returned (.bool false) ∧ w = w')
    (hcf : ∀ w', (callFunc K lb).run Try.prog w' = .ok (.enter K lb) w') (hK : Calls Try.prog K lb w fun e w' => ∃ v u, e = .returned (.tuple #[v, u]) ∧ R v u w') :
    Calls Try.prog 89 #[.pointer (some ⟨b, 0, none⟩), .func (.func K) #[] lb] w fun e w' => ∃ v u, e = .returned (.tuple #[v, u]) ∧ R v u w' := by
  have HN := Lib.hid hN
  have HK := Lib.hid hK
  clear hN hK
  go_enter Try.func89, Try.ntmps89
  go_wp2_with fail
  refine HN.out.mono ?_
  rintro e w' ⟨rfl, rfl⟩
  go_wp2_with fail
  refine HK.out.mono ?_
  rintro e w' ⟨v, u, rfl, hR⟩
  go_wp2
  go_ret2
  exact ⟨v, u, rfl, hR⟩
set_option maxRecDepth 100000 in
set_option maxHeartbeats 2000000 in
theorem lm_take1 (b c m p mb : Nat) (lo : Int) (n : Nat) (now : Int) (l : Ents) (S : Lns) (G : Nat → List Int) (ga : Nat → Option Addr) (gc : Nat → Nat) (bl bm : Nat) (many : Int) (w : World) (h : LimAt w b c m p mb lo n now l S G ga gc) (R : Value → Value → World → Prop) (hbl : w.cell? ⟨bl, 0, none⟩ = some (.pointer (some ⟨b, 0, none⟩))) (hbm : w.cell? ⟨bm, 0, none⟩ = some (.int .i64 many)) (hne : bl ≠ p ∧ bm ≠ p)
    (hT : ∀ W, Ext [] w W → Calls Try.prog 24 #[.pointer (some ⟨p, 0, none⟩), .int .i64 many] W fun e w' => ∃ v u, e = .returned (.tuple #[v, u]) ∧ Ext [p] w w' ∧ R v u w') :
    Calls Try.prog 85 #[.pointer (some ⟨bl, 0, none⟩), .pointer (some ⟨bm, 0, none⟩)] w fun e w' => ∃ v u, e = .returned (.tuple #[v, u]) ∧ R v u w' := by
  have HR : Hid (∀ X, Ext [p] w X → X.cell? ⟨bl, 0, none⟩ = some (.pointer (some ⟨b, 0, none⟩)) ∧ X.cell? ⟨bm, 0, none⟩ = some (.int .i64 many) ∧ X.cell? ⟨b, 1, none⟩ = some (.pointer (some ⟨p, 0, none⟩))) := fun X hX => by
    have hn := h.ne
    exact ⟨hX.cell hbl (by simp; omega), hX.cell hbm (by simp; omega), hX.cell (cell_of (j := 1) h.blk rfl) (by simp; omega)⟩
  have HT := Lib.hid hT
  clear hT hbl hbm hne h
  go_enter Try.func85, Try.ntmps85
  go_upto_region 1 with fail
  refine wp_mono (Q := Exit.then _ (NoPanic _)) ?_ then_np'
  refine wp_region_p4 [] (hds4 [0, 1, 2, 3, 4] (.tl 5 (hds4 [6, 7] (tls4 [8, 9] .done)))) (Ext [p] w) (by kernel_rfl) (by kernel_rfl) (fun _ d _ _ _ h => by cases d <;> exact h) (Ext.refl _ _).drew ?_
  repeat (first
    | (refine wpPl_no4 rfl (by rfl) ?_; simp only [Act.put, List.setIfInBounds_toArray, List.set_cons_zero, List.set_cons_succ])
    | (refine wpPl_hd4 ?_ rfl (by rfl) (fun w hSw => ?_) ?_
       rotate_left
       · (obtain ⟨g1, g2, g3⟩ := HR.out _ hSw; clear hSw; go_simp; first | exact ⟨rfl, rfl⟩ | exact rfl)
       simp only [Act.put, List.setIfInBounds_toArray, List.set_cons_zero, List.set_cons_succ]))
  refine wpPl_tl4 rfl (by rfl) (fun K hK => ?_)
  go_simp
  go_at_call 24
  refine (HT.out _ (Ext.refl _ _).drew).mono ?_
  rintro e w5 ⟨v5, u5, rfl, hE5, hR5⟩
  have H5 := Lib.hid (And.intro hE5 hR5)
  refine hK _ _ (fun _ => H5.out.1) ?_
  clear hK K hE5 hR5
  try simp only [Act.put, List.setIfInBounds_toArray, List.set_cons_zero, List.set_cons_succ]
  repeat (first
    | (refine wpPl_no4 rfl (by rfl) ?_; simp only [Act.put, List.setIfInBounds_toArray, List.set_cons_zero, List.set_cons_succ])
    | (refine wpPl_hd4 ?_ rfl (by rfl) (fun w hSw => ?_) ?_
       rotate_left
       · (clear hSw; go_simp; first | exact ⟨rfl, rfl⟩ | exact rfl)
       simp only [Act.put, List.setIfInBounds_toArray, List.set_cons_zero, List.set_cons_succ]))
  refine wpPl_tl4 rfl (by rfl) (fun K hK => ?_)
  go_simp
  refine hK _ _ (fun _ => H5.out.1) ?_
  clear hK K
  try simp only [Act.put, List.setIfInBounds_toArray, List.set_cons_zero, List.set_cons_succ]
  refine wpPl_tl4 rfl (by rfl) (fun K hK => ?_)
  go_simp
  refine hK _ _ (fun _ => H5.out.1) ?_
  clear hK K
  try simp only [Act.put, List.setIfInBounds_toArray, List.set_cons_zero, List.set_cons_succ]
  refine wpPl_done4 ?_
  go_wp2
  go_ret2
  exact ⟨_, _, rfl, H5.out.2⟩
set_option maxRecDepth 100000 in
set_option maxHeartbeats 2000000 in
theorem lm_pin1 (b c m p mb : Nat) (lo : Int) (n : Nat) (now : Int) (l : Ents) (S : Lns) (G : Nat → List Int) (ga : Nat → Option Addr) (gc : Nat → Nat) (bl bm : Nat) (many : Int) (w : World) (h : LimAt w b c m p mb lo n now l S G ga gc) (R : Value → Value → World → Prop) (hbl : w.cell? ⟨bl, 0, none⟩ = some (.pointer (some ⟨b, 0, none⟩))) (hbm : w.cell? ⟨bm, 0, none⟩ = some (.int .i64 many)) (hne : bl ≠ m ∧ bm ≠ m)
    (hT : ∀ W, Ext [] w W → Calls Try.prog 15 #[.pointer (some ⟨c, 0, none⟩), .int .i64 many] W fun e w' => ∃ v u, e = .returned (.tuple #[v, u]) ∧ Ext [m] w w' ∧ R v u w') :
    Calls Try.prog 90 #[.pointer (some ⟨bl, 0, none⟩), .pointer (some ⟨bm, 0, none⟩)] w fun e w' => ∃ v u, e = .returned (.tuple #[v, u]) ∧ R v u w' := by
  have HR : Hid (∀ X, Ext [m] w X → X.cell? ⟨bl, 0, none⟩ = some (.pointer (some ⟨b, 0, none⟩)) ∧ X.cell? ⟨bm, 0, none⟩ = some (.int .i64 many) ∧ X.cell? ⟨b, 0, none⟩ = some (.pointer (some ⟨c, 0, none⟩))) := fun X hX => by
    have hn := h.ne
    exact ⟨hX.cell hbl (by simp; omega), hX.cell hbm (by simp; omega), hX.cell (cell_of (j := 0) h.blk rfl) (by simp; omega)⟩
  have HT := Lib.hid hT
  clear hT hbl hbm hne h
  go_enter Try.func90, Try.ntmps90
  go_upto_region 1 with fail
  refine wp_mono (Q := Exit.then _ (NoPanic _)) ?_ then_np'
  refine wp_region_p4 [] (hds4 [0, 1, 2, 3, 4, 5] (.tl 6 (hds4 [7, 8] (tls4 [9, 10] .done)))) (Ext [m] w) (by kernel_rfl) (by kernel_rfl) (fun _ d _ _ _ h => by cases d <;> exact h) (Ext.refl _ _).drew ?_
  repeat (first
    | (refine wpPl_no4 rfl (by rfl) ?_; simp only [Act.put, List.setIfInBounds_toArray, List.set_cons_zero, List.set_cons_succ])
    | (refine wpPl_hd4 ?_ rfl (by rfl) (fun w hSw => ?_) ?_
       rotate_left
       · (obtain ⟨g1, g2, g3⟩ := HR.out _ hSw; clear hSw; go_simp; first | exact ⟨rfl, rfl⟩ | exact rfl)
       simp only [Act.put, List.setIfInBounds_toArray, List.set_cons_zero, List.set_cons_succ]))
  refine wpPl_tl4 rfl (by rfl) (fun K hK => ?_)
  go_simp
  go_at_call 15
  refine (HT.out _ (Ext.refl _ _).drew).mono ?_
  rintro e w5 ⟨v5, u5, rfl, hE5, hR5⟩
  have H5 := Lib.hid (And.intro hE5 hR5)
  refine hK _ _ (fun _ => H5.out.1) ?_
  clear hK K hE5 hR5
  try simp only [Act.put, List.setIfInBounds_toArray, List.set_cons_zero, List.set_cons_succ]
  repeat (first
    | (refine wpPl_no4 rfl (by rfl) ?_; simp only [Act.put, List.setIfInBounds_toArray, List.set_cons_zero, List.set_cons_succ])
    | (refine wpPl_hd4 ?_ rfl (by rfl) (fun w hSw => ?_) ?_
       rotate_left
       · (clear hSw; go_simp; first | exact ⟨rfl, rfl⟩ | exact rfl)
       simp only [Act.put, List.setIfInBounds_toArray, List.set_cons_zero, List.set_cons_succ]))
  refine wpPl_tl4 rfl (by rfl) (fun K hK => ?_)
  go_simp
  refine hK _ _ (fun _ => H5.out.1) ?_
  clear hK K
  try simp only [Act.put, List.setIfInBounds_toArray, List.set_cons_zero, List.set_cons_succ]
  refine wpPl_tl4 rfl (by rfl) (fun K hK => ?_)
  go_simp
  refine hK _ _ (fun _ => H5.out.1) ?_
  clear hK K
  try simp only [Act.put, List.setIfInBounds_toArray, List.set_cons_zero, List.set_cons_succ]
  refine wpPl_done4 ?_
  go_wp2
  go_ret2
  exact ⟨_, _, rfl, H5.out.2⟩
set_option maxRecDepth 100000 in
set_option maxHeartbeats 2000000 in
theorem lm_unpin1 (b c m p mb : Nat) (lo : Int) (n : Nat) (now : Int) (l : Ents) (S : Lns) (G : Nat → List Int) (ga : Nat → Option Addr) (gc : Nat → Nat) (bl bm : Nat) (many : Int) (w : World) (h : LimAt w b c m p mb lo n now l S G ga gc) (R : Value → Value → World → Prop) (hbl : w.cell? ⟨bl, 0, none⟩ = some (.pointer (some ⟨b, 0, none⟩))) (hbm : w.cell? ⟨bm, 0, none⟩ = some (.int .i64 many)) (hne : bl ≠ m ∧ bm ≠ m)
    (hT : ∀ W, Ext [] w W → Calls Try.prog 16 #[.pointer (some ⟨c, 0, none⟩), .int .i64 many] W fun e w' => ∃ u, e = .returned u ∧ Ext [m] w w' ∧ R (.int .i64 0) u w') :
    Calls Try.prog 91 #[.pointer (some ⟨bl, 0, none⟩), .pointer (some ⟨bm, 0, none⟩)] w fun e w' => ∃ v u, e = .returned (.tuple #[v, u]) ∧ R v u w' := by
  have HR : Hid (∀ X, Ext [m] w X → X.cell? ⟨bl, 0, none⟩ = some (.pointer (some ⟨b, 0, none⟩)) ∧ X.cell? ⟨bm, 0, none⟩ = some (.int .i64 many) ∧ X.cell? ⟨b, 0, none⟩ = some (.pointer (some ⟨c, 0, none⟩))) := fun X hX => by
    have hn := h.ne
    exact ⟨hX.cell hbl (by simp; omega), hX.cell hbm (by simp; omega), hX.cell (cell_of (j := 0) h.blk rfl) (by simp; omega)⟩
  have HT := Lib.hid hT
  clear hT hbl hbm hne h
  go_enter Try.func91, Try.ntmps91
  go_upto_region 1 with fail
  refine wp_mono (Q := Exit.then _ (NoPanic _)) ?_ then_np'
  refine wp_region_p4 [] (hds4 [0, 1, 2, 3, 4, 5] (.tl 6 (tls4 [7, 8] .done))) (Ext [m] w) (by kernel_rfl) (by kernel_rfl) (fun _ d _ _ _ h => by cases d <;> exact h) (Ext.refl _ _).drew ?_
  repeat (first
    | (refine wpPl_no4 rfl (by rfl) ?_; simp only [Act.put, List.setIfInBounds_toArray, List.set_cons_zero, List.set_cons_succ])
    | (refine wpPl_hd4 ?_ rfl (by rfl) (fun w hSw => ?_) ?_
       rotate_left
       · (obtain ⟨g1, g2, g3⟩ := HR.out _ hSw; clear hSw; go_simp; first | exact ⟨rfl, rfl⟩ | exact rfl)
       simp only [Act.put, List.setIfInBounds_toArray, List.set_cons_zero, List.set_cons_succ]))
  refine wpPl_tl4 rfl (by rfl) (fun K hK => ?_)
  go_simp
  go_at_call 16
  refine (HT.out _ (Ext.refl _ _).drew).mono ?_
  rintro e w5 ⟨u5, rfl, hE5, hR5⟩
  have H5 := Lib.hid (And.intro hE5 hR5)
  refine hK _ _ (fun _ => H5.out.1) ?_
  clear hK K hE5 hR5
  try simp only [Act.put, List.setIfInBounds_toArray, List.set_cons_zero, List.set_cons_succ]
  repeat (first
    | (refine wpPl_no4 rfl (by rfl) ?_; simp only [Act.put, List.setIfInBounds_toArray, List.set_cons_zero, List.set_cons_succ])
    | (refine wpPl_hd4 ?_ rfl (by rfl) (fun w hSw => ?_) ?_
       rotate_left
       · (clear hSw; go_simp; first | exact ⟨rfl, rfl⟩ | exact rfl)
       simp only [Act.put, List.setIfInBounds_toArray, List.set_cons_zero, List.set_cons_succ]))
  refine wpPl_tl4 rfl (by rfl) (fun K hK => ?_)
  go_simp
  refine hK _ _ (fun _ => H5.out.1) ?_
  clear hK K
  try simp only [Act.put, List.setIfInBounds_toArray, List.set_cons_zero, List.set_cons_succ]
  refine wpPl_tl4 rfl (by rfl) (fun K hK => ?_)
  go_simp
  refine hK _ _ (fun _ => H5.out.1) ?_
  clear hK K
  try simp only [Act.put, List.setIfInBounds_toArray, List.set_cons_zero, List.set_cons_succ]
  refine wpPl_done4 ?_
  go_wp2
  go_ret2
  exact ⟨_, _, rfl, H5.out.2⟩
set_option maxRecDepth 100000 in
set_option maxHeartbeats 2000000 in
theorem lm_take (b c m p mb : Nat) (lo : Int) (n : Nat) (now : Int) (l : Ents) (S : Lns) (G : Nat → List Int) (ga : Nat → Option Addr) (gc : Nat → Nat) (many : Int) (w : World) (h : LimAt w b c m p mb lo n now l S G ga gc) (R : Value → Value → World → Prop)
    (hT : ∀ W, Ext [] w W → Calls Try.prog 24 #[.pointer (some ⟨p, 0, none⟩), .int .i64 many] W fun e w' => ∃ v u, e = .returned (.tuple #[v, u]) ∧ Ext [p] W w' ∧ R v u w') :
    Calls Try.prog 43 #[.pointer (some ⟨b, 0, none⟩), .int .i64 many] w fun e w' => ∃ v u, e = .returned (.tuple #[v, u]) ∧ R v u w' := by
  obtain ⟨W, hW⟩ : ∃ W, (w.alloc (.cells #[.pointer (some ⟨b, 0, none⟩)] 76)).alloc (.cells #[.int .i64 many] 3) = W := ⟨_, rfl⟩
  obtain ⟨hb1, hb2, _⟩ := al2_heap (w := w) #[.pointer (some ⟨b, 0, none⟩)] #[.int .i64 many] 76 3
  rw [hW] at hb1 hb2
  have hE : Ext [] w W := by rw [← hW]; exact ((Ext.refl _ _).alloc _).alloc _
  have hL := h.ext0 hE
  have hlt := h.lt
  have k1 := cell_of (j := 0) hb1 rfl
  have hcf := enters_of Try.func85 (by kernel_rfl) rfl
  have HK := Lib.hid (lm_askedL b 85 #[.pointer (some ⟨w.heap.size, 0, none⟩), .pointer (some ⟨w.heap.size + 1, 0, none⟩)] W R (lm_none b c m p mb lo n now l S G ga gc W hL) (hcf _)
    (lm_take1 b c m p mb lo n now l S G ga gc w.heap.size (w.heap.size + 1) many W hL R (cell_of (j := 0) hb1 rfl) (cell_of (j := 0) hb2 rfl) (by have := hlt p (by unfold Bl; simp); omega) (fun X hX => (hT X (hE.trans hX)).mono fun e w' hq => by
      obtain ⟨v, u, he, hx, hr⟩ := hq
      exact ⟨v, u, he, hX.wide.trans hx, hr⟩)))
  clear hb1 hb2 hE hL hlt hT h
  go_enter Try.func43, Try.ntmps43
  go_wp2_with fail
  try rw [hW]
  clear hW
  refine HK.out.mono ?_
  rintro e w' ⟨v, u, rfl, hR⟩
  have HR := Lib.hid hR
  clear hR
  go_wp2
  go_ret2
  exact ⟨v, u, rfl, HR.out⟩
set_option maxRecDepth 100000 in
set_option maxHeartbeats 2000000 in
theorem lm_pin (b c m p mb : Nat) (lo : Int) (n : Nat) (now : Int) (l : Ents) (S : Lns) (G : Nat → List Int) (ga : Nat → Option Addr) (gc : Nat → Nat) (many : Int) (w : World) (h : LimAt w b c m p mb lo n now l S G ga gc) (R : Value → Value → World → Prop)
    (hT : ∀ W, Ext [] w W → Calls Try.prog 15 #[.pointer (some ⟨c, 0, none⟩), .int .i64 many] W fun e w' => ∃ v u, e = .returned (.tuple #[v, u]) ∧ Ext [m] W w' ∧ R v u w') :
    Calls Try.prog 46 #[.pointer (some ⟨b, 0, none⟩), .int .i64 many] w fun e w' => ∃ v u, e = .returned (.tuple #[v, u]) ∧ R v u w' := by
  obtain ⟨W, hW⟩ : ∃ W, (w.alloc (.cells #[.pointer (some ⟨b, 0, none⟩)] 76)).alloc (.cells #[.int .i64 many] 3) = W := ⟨_, rfl⟩
  obtain ⟨hb1, hb2, _⟩ := al2_heap (w := w) #[.pointer (some ⟨b, 0, none⟩)] #[.int .i64 many] 76 3
  rw [hW] at hb1 hb2
  have hE : Ext [] w W := by rw [← hW]; exact ((Ext.refl _ _).alloc _).alloc _
  have hL := h.ext0 hE
  have hlt := h.lt
  have k1 := cell_of (j := 0) hb1 rfl
  have hcf := enters_of Try.func90 (by kernel_rfl) rfl
  have HK := Lib.hid (lm_askedI b 90 #[.pointer (some ⟨w.heap.size, 0, none⟩), .pointer (some ⟨w.heap.size + 1, 0, none⟩)] W R (lm_none b c m p mb lo n now l S G ga gc W hL) (hcf _)
    (lm_pin1 b c m p mb lo n now l S G ga gc w.heap.size (w.heap.size + 1) many W hL R (cell_of (j := 0) hb1 rfl) (cell_of (j := 0) hb2 rfl) (by have := hlt m (by unfold Bl; simp); omega) (fun X hX => (hT X (hE.trans hX)).mono fun e w' hq => by
      obtain ⟨v, u, he, hx, hr⟩ := hq
      exact ⟨v, u, he, hX.wide.trans hx, hr⟩)))
  clear hb1 hb2 hE hL hlt hT h
  go_enter Try.func46, Try.ntmps46
  go_wp2_with fail
  try rw [hW]
  clear hW
  refine HK.out.mono ?_
  rintro e w' ⟨v, u, rfl, hR⟩
  have HR := Lib.hid hR
  clear hR
  go_wp2
  go_ret2
  exact ⟨v, u, rfl, HR.out⟩
set_option maxRecDepth 100000 in
set_option maxHeartbeats 2000000 in
theorem lm_unpin (b c m p mb : Nat) (lo : Int) (n : Nat) (now : Int) (l : Ents) (S : Lns) (G : Nat → List Int) (ga : Nat → Option Addr) (gc : Nat → Nat) (many : Int) (w : World) (h : LimAt w b c m p mb lo n now l S G ga gc) (R : Value → Value → World → Prop)
    (hT : ∀ W, Ext [] w W → Calls Try.prog 16 #[.pointer (some ⟨c, 0, none⟩), .int .i64 many] W fun e w' => ∃ u, e = .returned u ∧ Ext [m] W w' ∧ R (.int .i64 0) u w') :
    Calls Try.prog 47 #[.pointer (some ⟨b, 0, none⟩), .int .i64 many] w fun e w' => ∃ v u, e = .returned u ∧ R v u w' := by
  obtain ⟨W, hW⟩ : ∃ W, (w.alloc (.cells #[.pointer (some ⟨b, 0, none⟩)] 76)).alloc (.cells #[.int .i64 many] 3) = W := ⟨_, rfl⟩
  obtain ⟨hb1, hb2, _⟩ := al2_heap (w := w) #[.pointer (some ⟨b, 0, none⟩)] #[.int .i64 many] 76 3
  rw [hW] at hb1 hb2
  have hE : Ext [] w W := by rw [← hW]; exact ((Ext.refl _ _).alloc _).alloc _
  have hL := h.ext0 hE
  have hlt := h.lt
  have k1 := cell_of (j := 0) hb1 rfl
  have hcf := enters_of Try.func91 (by kernel_rfl) rfl
  have HK := Lib.hid (lm_askedI b 91 #[.pointer (some ⟨w.heap.size, 0, none⟩), .pointer (some ⟨w.heap.size + 1, 0, none⟩)] W R (lm_none b c m p mb lo n now l S G ga gc W hL) (hcf _)
    (lm_unpin1 b c m p mb lo n now l S G ga gc w.heap.size (w.heap.size + 1) many W hL R (cell_of (j := 0) hb1 rfl) (cell_of (j := 0) hb2 rfl) (by have := hlt m (by unfold Bl; simp); omega) (fun X hX => (hT X (hE.trans hX)).mono fun e w' hq => by
      obtain ⟨u, he, hx, hr⟩ := hq
      exact ⟨u, he, hX.wide.trans hx, hr⟩)))
  clear hb1 hb2 hE hL hlt hT h
  go_enter Try.func47, Try.ntmps47
  go_wp2_with fail
  try rw [hW]
  clear hW
  refine HK.out.mono ?_
  rintro e w' ⟨v, u, rfl, hR⟩
  have HR := Lib.hid hR
  clear hR
  go_wp2
  go_ret
  exact ⟨v, u, rfl, HR.out⟩
set_option maxRecDepth 100000 in
set_option maxHeartbeats 1000000 in
theorem lm_Taken (b c m p mb : Nat) (lo : Int) (n : Nat) (now : Int) (l : Ents) (S : Lns) (G : Nat → List Int) (ga : Nat → Option Addr) (gc : Nat → Nat) (k : Int) (w : World) (h : LimAt w b c m p mb lo n now l S G ga gc) :
    Calls Try.prog 61 #[.pointer (some ⟨b, 0, none⟩), .int .i64 k] w fun e w' => e = .returned (.bool (S k).1) ∧ w = w' := by
  have HN := Lib.hid (lm_none b c m p mb lo n now l S G ga gc w h)
  have HT := Lib.hid (al_Taken p mb lo _ S k w h.pool)
  have k1 := cell_of (j := 1) (v := .pointer (some ⟨p, 0, none⟩)) h.blk rfl
  clear h
  go_enter Try.func61, Try.ntmps61
  go_wp2_with (first | (go_at_call 86; refine HN.out.mono ?_; rintro e w' ⟨rfl, rfl⟩) | (go_at_call 37; refine HT.out.mono ?_; rintro e w' ⟨rfl, rfl⟩))
  go_ret
  exact ⟨rfl, rfl⟩
end Go.Proofs.Ytgpoplnfhlfogaa
