/- Package limbo: New, Copy; slices.Clone of ints (printed by wip/mkLmG.py). -/
import Derived.Test.YtgpoplnfhlfogaaLmF
namespace Go.Proofs.Ytgpoplnfhlfogaa
open Go Go.RowKit Go.Shelf
attribute [local go_sem] Oper.semAt_some

theorem eqlInts (ad : Option Addr) (n cap : Nat) (w : World) : (binOp .eql 43 (.slice ad n cap) (.slice none 0 0)).run Try.prog w = .ok (.bool ad.isNone) w := by
  cases ad <;> kernel_rfl
theorem owns_emp {w : World} {b base : Nat} {t : TypeId} {size : Nat} (h : w.heap[b]? = some (.cells #[] t (0, 0))) (hb : base ≤ b) : w.ownsRow base t size (.slice (some ⟨b, 0, none⟩) 0 0) 0 [] :=
  ⟨by simp, .inr ⟨b, 0, #[], rfl, hb, h, Nat.le_refl _, Nat.zero_le _, by simp, by simp⟩⟩
set_option maxRecDepth 100000 in
set_option maxHeartbeats 2000000 in
theorem lm_clone (ao : Option Addr) (cap : Nat) (L : List Int) (w : World) (h : IntsB w ao L.length (fun i => L.getD i 0)) (h1 : L.length ≤ 400000) :
    Calls Try.prog 92 #[.slice ao L.length cap] w fun e w' => ∃ ao' cap', e = .returned (.slice ao' L.length cap') ∧ Ext [] w w' ∧ IntsB w' ao' L.length (fun i => L.getD i 0) ∧ ∀ q, ao' = some q → w.heap.size ≤ q.block ∧ q.block < w'.heap.size := by
  obtain ⟨i0, hi, hz0, hz1, hz2⟩ := info_parts infoInt
  have he := eqlInts
  have hs := rowSrc_of h
  cases ao with
  | none =>
    have hl : L = [] := by
      rcases h with h0 | ⟨b, off, h0, _⟩
      · exact List.eq_nil_of_length_eq_zero h0
      · cases h0
    subst hl
    clear h h1 hs
    go_enter Try.func92, Try.ntmps92
    go_wp2
    go_ret
    exact ⟨none, 0, rfl, Ext.refl _ _, .inl rfl, fun q hq => by cases hq⟩
  | some ad =>
    have hs := hs.ext (k := []) ((Ext.refl [] w).alloc (.cells #[] 3)) (fun _ _ => by simp)
    have ho : (w.alloc (.cells #[] 3)).ownsRow w.heap.size 3 1 (.slice (some ⟨w.heap.size, 0, none⟩) 0 0) 0 [] := owns_emp (World.alloc_heap_new _ _) (Nat.le_refl _)
    have HS := Lib.hid (And.intro hs (And.intro ho h1))
    clear h hs ho h1
    go_enter Try.func92, Try.ntmps92
    go_wp2_with (at_builtin; refine wpList_append_any rfl _ _ 43 rfl w.heap.size 3 i0 (.int .i64 0) 1 8 Try.underlying43 hi hz0 hz1 hz2 rfl (by decide) _ _ _ rfl HS.out.2.1 (some ad) L.length cap (intL L) rfl HS.out.1 (by have := HS.out.2.2; unfold maxLen; omega) (by have := HS.out.2.2; omega) (by simp) ?_)
    intro v w1 ho1 hE1 hl1
    try rw [Nat.zero_add] at ho1
    try rw [List.nil_append] at ho1
    have hE : Ext [] w w1 := ((Ext.refl [] w).alloc (.cells #[] 3)).trans' hE1 (fun j hj => .inr (by simp [Value.ownBlock] at hj; omega))
    obtain ⟨ao', cap', rfl, hI, hb⟩ := intsB_of rfl ho1
    have HF := Lib.hid (And.intro hE (And.intro hI hb))
    clear ho1 hE1 hl1 hE hI hb
    go_wp2
    go_ret
    exact ⟨ao', cap', rfl, HF.out.1, HF.out.2.1, HF.out.2.2⟩

theorem LimAt.congrG {w : World} {b c m p mb n : Nat} {lo now : Int} {l : Ents} {S : Lns} {G G2 : Nat → List Int} {ga ga2 : Nat → Option Addr} {gc gc2 : Nat → Nat} (h : LimAt w b c m p mb lo n now l S G ga gc) (hG : ∀ k, k < 3 → G k = G2 k) (ha : ∀ k, k < 3 → ga k = ga2 k) (hc : ∀ k, k < 3 → gc k = gc2 k) : LimAt w b c m p mb lo n now l S G2 ga2 gc2 := by
  refine ⟨?_, h.clk, h.pool, fun k hk => ?_, fun k hk q hq => h.sep k hk q (by rw [ha k hk]; exact hq), h.mm⟩
  · have e : limC c p G ga gc = limC c p G2 ga2 gc2 := by unfold limC; rw [hG 0 (by omega), hG 1 (by omega), hG 2 (by omega), ha 0 (by omega), ha 1 (by omega), ha 2 (by omega), hc 0 (by omega), hc 1 (by omega), hc 2 (by omega)]
    rw [← e]
    exact h.blk
  · rw [← hG k hk, ← ha k hk]
    exact h.gone k hk
/-- a limbo of which nothing waits -/
theorem LimAt.made {w : World} {c m p mb n : Nat} {lo now : Int} {l : Ents} {S : Lns} {b : Nat} (hb : w.heap[b]? = some (.cells (limC c p (fun _ => []) (fun _ => none) (fun _ => 0)) 125 (0, 0))) (hc : Clk w c m now l) (hp : Pool w p mb lo (lo + (n : Int) - 1) S) (hm : m ≠ mb) :
    LimAt w b c m p mb lo n now l S (fun _ => []) (fun _ => none) (fun _ => 0) := ⟨hb, hc, hp, fun _ _ => .inl rfl, fun _ _ q hq => (by cases hq), hm⟩
set_option maxRecDepth 100000 in
set_option maxHeartbeats 2000000 in
theorem lm_New (lo : Int) (n : Nat) (w : World) (h0 : 0 ≤ lo) (h1 : 1 ≤ n) (h2 : lo + (n : Int) - 1 < 1024) :
    Calls Try.prog 42 #[.int .i64 lo, .int .i64 (lo + (n : Int) - 1)] w fun e w' => ∃ b c m p mb, e = .returned (.tuple #[.pointer (some ⟨b, 0, none⟩), .int .i64 0]) ∧ Ext [] w w' ∧ LimAt w' b c m p mb lo n 0 [] S0 (fun _ => []) (fun _ => none) (fun _ => 0) ∧ w.heap.size ≤ b ∧ w.heap.size ≤ c ∧ w.heap.size ≤ m ∧ w.heap.size ≤ p ∧ w.heap.size ≤ mb := by
  obtain ⟨hi, hhi⟩ : ∃ hi, lo + (n : Int) - 1 = hi := ⟨_, rfl⟩
  have HP := Lib.hid (al_New lo hi w h0 (by omega) (by omega))
  rw [hhi]
  have HH := Lib.hid hhi
  clear hhi
  go_enter Try.func42, Try.ntmps42
  go_wp2_with fail
  refine HP.out.mono ?_
  rintro e W1 ⟨rfl, hE1, hp1⟩
  have H1 := Lib.hid (And.intro hE1 hp1)
  clear hE1 hp1 HP
  go_wp2_with fail
  refine (ep_new W1).mono ?_
  rintro e W2 ⟨rfl, hE2, hc2⟩
  have H2 := Lib.hid (And.intro hE2 hc2)
  clear hE2 hc2
  go_wp2
  go_ret2
  obtain ⟨hE1, hp1⟩ := H1.out
  obtain ⟨hE2, hc2⟩ := H2.out
  have s1 := hE1.size
  have s2 := hE2.size
  have hE3 : Ext [] W2 (W2.alloc (.cells (limC (W1.heap.size + 1) (w.heap.size + 1) (fun _ => []) (fun _ => none) (fun _ => 0)) 125)) := (Ext.refl _ _).alloc _
  have hml := hp1.2.lt
  refine ⟨_, W1.heap.size + 1, W1.heap.size, w.heap.size + 1, w.heap.size, rfl, (hE1.trans hE2).trans hE3, LimAt.made (World.alloc_heap_new _ _) (hc2.ext hE3 (by simp) (by simp)) ?_ (by omega), by omega, by omega, by omega, by omega, by omega⟩
  rw [HH.out]
  exact (hp1.ext hE2 (by simp) (by simp)).ext hE3 (by simp) (by simp)
theorem idx3 (x y z : Value) (W : World) : (Instr.index 123 (.agg #[x, y, z]) (.int .i64 0)).run Try.prog W = .ok x W ∧ (Instr.index 123 (.agg #[x, y, z]) (.int .i64 1)).run Try.prog W = .ok y W ∧ (Instr.index 123 (.agg #[x, y, z]) (.int .i64 2)).run Try.prog W = .ok z W := ⟨by kernel_rfl, by kernel_rfl, by kernel_rfl⟩
set_option maxRecDepth 100000 in
set_option maxHeartbeats 8000000 in
theorem lm_Copy (b c m p mb : Nat) (lo : Int) (n : Nat) (now : Int) (l : Ents) (S : Lns) (G : Nat → List Int) (ga : Nat → Option Addr) (gc : Nat → Nat) (w : World) (h : LimAt w b c m p mb lo n now l S G ga gc) (hG : ∀ k, k < 3 → (G k).length ≤ 400000) :
    Calls Try.prog 48 #[.pointer (some ⟨b, 0, none⟩)] w fun e w' => ∃ b' c' m' p' mb' ga' gc', e = .returned (.pointer (some ⟨b', 0, none⟩)) ∧ Ext [] w w' ∧ LimAt w' b' c' m' p' mb' lo n now l S G ga' gc' ∧ ∀ x, Bl b' c' m' p' mb' ga' x → w.heap.size ≤ x := by
  have HN := Lib.hid (lm_none b c m p mb lo n now l S G ga gc w h)
  have HR : Hid (∀ X, Ext [] w X → X.cell? ⟨b, 0, none⟩ = some (.pointer (some ⟨c, 0, none⟩)) ∧ X.cell? ⟨b, 1, none⟩ = some (.pointer (some ⟨p, 0, none⟩))) := fun X hX =>
    ⟨hX.cell (cell_of (j := 0) h.blk rfl) (by simp), hX.cell (cell_of (j := 1) h.blk rfl) (by simp)⟩
  have H := Lib.hid (And.intro h hG)
  clear h hG
  go_enter Try.func48, Try.ntmps48
  go_wp2_with fail
  refine HN.out.mono ?_
  rintro e w' ⟨rfl, rfl⟩
  clear HN
  go_upto_region 3 with fail
  refine wp_mono (Q := Exit.then _ (NoPanic _)) ?_ then_np'
  refine wp_region_p4 [] (hds4 [0, 1, 2, 3, 4, 7, 8, 9, 10] (.tl 5 (hds4 [6] (.tl 11 (hds4 [12] (.tl 13 (.tl 14 .done))))))) (Ext [] w) (by kernel_rfl) (by kernel_rfl) (fun _ d _ _ _ h => by cases d <;> exact h) (Ext.refl _ _).drew ?_
  repeat (first
    | (refine wpPl_no4 rfl (by rfl) ?_; simp only [Act.put, List.setIfInBounds_toArray, List.set_cons_zero, List.set_cons_succ])
    | (refine wpPl_hd4 ?_ rfl (by rfl) (fun w hSw => ?_) ?_
       rotate_left
       · (obtain ⟨g1, g2⟩ := HR.out _ hSw; clear hSw; go_simp; first | exact ⟨rfl, rfl⟩ | exact rfl)
       simp only [Act.put, List.setIfInBounds_toArray, List.set_cons_zero, List.set_cons_succ]))
  refine wpPl_tl4 rfl (by rfl) (fun K hK => ?_)
  go_simp
  go_at_call 55
  refine (ep_Copy c m now l _ (H.out.1.clk.ext (Ext.refl [] _).drew (by simp) (by simp))).mono ?_
  rintro e W1 ⟨c', m', rfl, hE1, hc1, hcl, hml⟩
  have H1 := Lib.hid (And.intro (show Ext [] w W1 from (Ext.refl [] w).drew.trans hE1) (And.intro hc1 (And.intro (show w.heap.size ≤ c' from hcl) (show w.heap.size ≤ m' from hml))))
  refine hK _ _ (fun _ => H1.out.1) ?_
  clear hK K hE1 hc1 hcl hml
  try simp only [Act.put, List.setIfInBounds_toArray, List.set_cons_zero, List.set_cons_succ]
  repeat (first
    | (refine wpPl_no4 rfl (by rfl) ?_; simp only [Act.put, List.setIfInBounds_toArray, List.set_cons_zero, List.set_cons_succ])
    | (refine wpPl_hd4 ?_ rfl (by rfl) (fun w hSw => ?_) ?_
       rotate_left
       · (obtain ⟨g1, g2⟩ := HR.out _ hSw; clear hSw; go_simp; first | exact ⟨rfl, rfl⟩ | exact rfl)
       simp only [Act.put, List.setIfInBounds_toArray, List.set_cons_zero, List.set_cons_succ]))
  refine wpPl_tl4 rfl (by rfl) (fun K hK => ?_)
  go_simp
  go_at_call 28
  refine (al_Copy p mb lo _ S W1 (H.out.1.ext0 H1.out.1).pool).mono ?_
  rintro e W2 ⟨p', mb', rfl, hE2, hp2, hpl, hmbl⟩
  have H2 := Lib.hid (And.intro (H1.out.1.trans hE2) (And.intro (H1.out.2.1.ext hE2 (by simp) (by simp)) (And.intro hp2 (And.intro (show w.heap.size ≤ p' from Nat.le_trans H1.out.1.size hpl) (And.intro (show w.heap.size ≤ mb' from Nat.le_trans H1.out.1.size hmbl) (show m' ≠ mb' by have := H1.out.2.1.2.lt; omega))))))
  refine hK _ _ (fun _ => H2.out.1) ?_
  clear hK K hE2 hp2 hpl hmbl
  try simp only [Act.put, List.setIfInBounds_toArray, List.set_cons_zero, List.set_cons_succ]
  repeat (first
    | (refine wpPl_no4 rfl (by rfl) ?_; simp only [Act.put, List.setIfInBounds_toArray, List.set_cons_zero, List.set_cons_succ])
    | (refine wpPl_hd4 ?_ rfl (by rfl) (fun w hSw => ?_) ?_
       rotate_left
       · (obtain ⟨g1, g2⟩ := HR.out _ hSw; clear hSw; go_simp; first | exact ⟨rfl, rfl⟩ | exact rfl)
       simp only [Act.put, List.setIfInBounds_toArray, List.set_cons_zero, List.set_cons_succ]))
  refine wpPl_tl4 rfl (by rfl) (fun K hK => ?_)
  go_simp
  obtain ⟨W3, hW3⟩ : ∃ W3, W2.alloc (.cells #[.pointer (some ⟨c', 0, none⟩), .pointer (some ⟨p', 0, none⟩), .slice none 0 0, .slice none 0 0, .slice none 0 0] 125) = W3 := ⟨_, rfl⟩
  obtain ⟨b', hb'⟩ : ∃ b', W2.heap.size = b' := ⟨_, rfl⟩
  have hE3 : Ext [] W2 W3 := by rw [← hW3]; exact (Ext.refl _ _).alloc _
  have hL3 : LimAt W3 b' c' m' p' mb' lo n now l S (fun _ => []) (fun _ => none) (fun _ => 0) := by
    refine LimAt.made ?_ (H2.out.2.1.ext hE3 (by simp) (by simp)) (H2.out.2.2.1.ext hE3 (by simp) (by simp)) H2.out.2.2.2.2.2
    rw [← hW3, ← hb']
    exact World.alloc_heap_new _ _
  have H3 := Lib.hid (And.intro (H2.out.1.trans hE3) (And.intro hL3 (show w.heap.size ≤ b' by have := H2.out.1.size; omega)))
  try rw [hW3]
  try rw [hb']
  refine hK _ _ (fun _ => H3.out.1) ?_
  clear hK K hE3 hL3 hW3 hb' HR
  try simp only [Act.put, List.setIfInBounds_toArray, List.set_cons_zero, List.set_cons_succ]
  refine wpPl_tl4 rfl (by rfl) (fun K hK => ?_)
  go_simp
  refine hK _ _ (fun _ => H3.out.1) ?_
  clear hK K
  try simp only [Act.put, List.setIfInBounds_toArray, List.set_cons_zero, List.set_cons_succ]
  refine wpPl_done4 ?_
  have hLo := H.out.1.ext0 H3.out.1
  have k2 := cell_of (j := 2) (v := .slice (ga 0) (G 0).length (gc 0)) hLo.blk rfl
  have k3 := cell_of (j := 3) (v := .slice (ga 1) (G 1).length (gc 1)) hLo.blk rfl
  have k4 := cell_of (j := 4) (v := .slice (ga 2) (G 2).length (gc 2)) hLo.blk rfl
  clear hLo
  go_wp2_with fail
  clear k2 k3 k4
  refine wp_loop_rounds 4 ?_
  rw [rounds_succ]
  have hix := fun W => idx3 (.slice (ga 0) (G 0).length (gc 0)) (.slice (ga 1) (G 1).length (gc 1)) (.slice (ga 2) (G 2).length (gc 2)) W
  go_upto_region 7 with fail
  clear hix
  have HC0 := Lib.hid (lm_clone (ga 0) (gc 0) (G 0) W3.drew ((H.out.1.ext0 (H3.out.1.trans (Ext.refl [] _).drew)).gone 0 (by omega)) (H.out.2 0 (by omega)))
  refine wp_region_p4 [] (hds4 [0, 1, 2, 4, 5] (.tl 3 (hds4 [6] (.tl 7 .done)))) (Ext [b'] W3) (by kernel_rfl) (by kernel_rfl) (fun _ d _ _ _ h => by cases d <;> exact h) (Ext.refl _ _).drew ?_
  repeat (first
    | (refine wpPl_no4 rfl (by rfl) ?_; simp only [Act.put, List.setIfInBounds_toArray, List.set_cons_zero, List.set_cons_succ])
    | (refine wpPl_hd4 ?_ rfl (by rfl) (fun w hSw => ?_) ?_
       rotate_left
       · (clear hSw; go_simp; first | exact ⟨rfl, rfl⟩ | exact rfl)
       simp only [Act.put, List.setIfInBounds_toArray, List.set_cons_zero, List.set_cons_succ]))
  refine wpPl_tl4 rfl (by rfl) (fun K hK => ?_)
  go_simp
  go_at_call 92
  refine HC0.out.mono ?_
  rintro e V0 ⟨a0, e0, rfl, hE, hI, hf⟩
  have hX : Ext [] W3 V0 := (show Ext [] W3 W3.drew from (Ext.refl [] _).drew).trans hE
  have hb := H3.out.2.2
  have hs1 := (H3.out.1).size
  have hLV := (H3.out.2.1).ext0 hX
  have f5 := free_of hLV.blk 2
  have k5 := cell_of (j := 2) (v := .slice none 0 0) hLV.blk rfl
  have hlt := (H3.out.2.1).lt
  have HV0 := Lib.hid (And.intro hX (And.intro hLV (And.intro hI (And.intro (show ∀ q, a0 = some q → w.heap.size ≤ q.block from fun q hq => Nat.le_trans hs1 (hf q hq).1) (show ∀ q, a0 = some q → q.block < V0.heap.size ∧ q.block ≠ b' ∧ q.block ≠ c' ∧ q.block ≠ m' ∧ q.block ≠ p' ∧ q.block ≠ mb' from fun q hq => by
    have h1 : W3.heap.size ≤ q.block := (hf q hq).1
    have t1 := hlt b' (.inl rfl)
    have t2 := hlt c' (.inr (.inl rfl))
    have t3 := hlt m' (.inr (.inr (.inl rfl)))
    have t4 := hlt p' (.inr (.inr (.inr (.inl rfl))))
    have t5 := hlt mb' (.inr (.inr (.inr (.inr (.inl rfl)))))
    exact ⟨(hf q hq).2, by omega, by omega, by omega, by omega, by omega⟩)))))
  refine hK _ _ (fun _ => HV0.out.1.wide) ?_
  clear hK K hE hI hf hX hb hs1 hLV hlt
  try simp only [Act.put, List.setIfInBounds_toArray, List.set_cons_zero, List.set_cons_succ]
  repeat (first
    | (refine wpPl_no4 rfl (by rfl) ?_; simp only [Act.put, List.setIfInBounds_toArray, List.set_cons_zero, List.set_cons_succ])
    | (refine wpPl_hd4 ?_ rfl (by rfl) (fun w hSw => ?_) ?_
       rotate_left
       · (clear hSw; go_simp; first | exact ⟨rfl, rfl⟩ | exact rfl)
       simp only [Act.put, List.setIfInBounds_toArray, List.set_cons_zero, List.set_cons_succ]))
  refine wpPl_tl4 rfl (by rfl) (fun K hK => ?_)
  go_simp
  obtain ⟨W4, hW4⟩ : ∃ W4, V0.setCell ⟨b', 2, none⟩ (.slice a0 (G 0).length e0) = W4 := ⟨_, rfl⟩
  have HW0 : Hid (LimAt W4 b' c' m' p' mb' lo n now l S (gon (fun _ => []) 0 (G 0)) (gaN (fun _ => none) 0 a0) (gcN (fun _ => 0) 0 e0) ∧ Ext [b'] W3 W4 ∧ Ext [] w W4) := by
    have hL := HV0.out.2.1.listed (i := 0) (L := G 0) (cap := e0) (by omega) HV0.out.2.2.1 HV0.out.2.2.2.2
    rw [show 2 + 0 = 2 from rfl, hW4] at hL
    have hE : Ext [b'] W3 W4 := by rw [← hW4]; exact (HV0.out.1.wide).setCell (.inl (by simp)) _
    have hb := H3.out.2.2
    exact ⟨hL, hE, (H3.out.1).trans' hE (fun x hx => .inr (by simp at hx; omega))⟩
  try rw [hW4]
  refine hK _ _ (fun _ => HW0.out.2.1) ?_
  clear hK K hW4 f5 k5
  try simp only [Act.put, List.setIfInBounds_toArray, List.set_cons_zero, List.set_cons_succ]
  refine wpPl_done4 ?_
  go_wp2_with fail
  rw [rounds_succ]
  have hix := fun W => idx3 (.slice (ga 0) (G 0).length (gc 0)) (.slice (ga 1) (G 1).length (gc 1)) (.slice (ga 2) (G 2).length (gc 2)) W
  go_upto_region 7 with fail
  clear hix
  have HC1 := Lib.hid (lm_clone (ga 1) (gc 1) (G 1) W4.drew ((H.out.1.ext0 (HW0.out.2.2.trans (Ext.refl [] _).drew)).gone 1 (by omega)) (H.out.2 1 (by omega)))
  refine wp_region_p4 [] (hds4 [0, 1, 2, 4, 5] (.tl 3 (hds4 [6] (.tl 7 .done)))) (Ext [b'] W4) (by kernel_rfl) (by kernel_rfl) (fun _ d _ _ _ h => by cases d <;> exact h) (Ext.refl _ _).drew ?_
  repeat (first
    | (refine wpPl_no4 rfl (by rfl) ?_; simp only [Act.put, List.setIfInBounds_toArray, List.set_cons_zero, List.set_cons_succ])
    | (refine wpPl_hd4 ?_ rfl (by rfl) (fun w hSw => ?_) ?_
       rotate_left
       · (clear hSw; go_simp; first | exact ⟨rfl, rfl⟩ | exact rfl)
       simp only [Act.put, List.setIfInBounds_toArray, List.set_cons_zero, List.set_cons_succ]))
  refine wpPl_tl4 rfl (by rfl) (fun K hK => ?_)
  go_simp
  go_at_call 92
  refine HC1.out.mono ?_
  rintro e V1 ⟨a1, e1, rfl, hE, hI, hf⟩
  have hX : Ext [] W4 V1 := (show Ext [] W4 W4.drew from (Ext.refl [] _).drew).trans hE
  have hb := H3.out.2.2
  have hs1 := (HW0.out.2.2).size
  have hLV := (HW0.out.1).ext0 hX
  have f5 := free_of hLV.blk 3
  have k5 := cell_of (j := 3) (v := .slice none 0 0) hLV.blk rfl
  have hlt := (HW0.out.1).lt
  have HV1 := Lib.hid (And.intro hX (And.intro hLV (And.intro hI (And.intro (show ∀ q, a1 = some q → w.heap.size ≤ q.block from fun q hq => Nat.le_trans hs1 (hf q hq).1) (show ∀ q, a1 = some q → q.block < V1.heap.size ∧ q.block ≠ b' ∧ q.block ≠ c' ∧ q.block ≠ m' ∧ q.block ≠ p' ∧ q.block ≠ mb' from fun q hq => by
    have h1 : W4.heap.size ≤ q.block := (hf q hq).1
    have t1 := hlt b' (.inl rfl)
    have t2 := hlt c' (.inr (.inl rfl))
    have t3 := hlt m' (.inr (.inr (.inl rfl)))
    have t4 := hlt p' (.inr (.inr (.inr (.inl rfl))))
    have t5 := hlt mb' (.inr (.inr (.inr (.inr (.inl rfl)))))
    exact ⟨(hf q hq).2, by omega, by omega, by omega, by omega, by omega⟩)))))
  refine hK _ _ (fun _ => HV1.out.1.wide) ?_
  clear hK K hE hI hf hX hb hs1 hLV hlt
  try simp only [Act.put, List.setIfInBounds_toArray, List.set_cons_zero, List.set_cons_succ]
  repeat (first
    | (refine wpPl_no4 rfl (by rfl) ?_; simp only [Act.put, List.setIfInBounds_toArray, List.set_cons_zero, List.set_cons_succ])
    | (refine wpPl_hd4 ?_ rfl (by rfl) (fun w hSw => ?_) ?_
       rotate_left
       · (clear hSw; go_simp; first | exact ⟨rfl, rfl⟩ | exact rfl)
       simp only [Act.put, List.setIfInBounds_toArray, List.set_cons_zero, List.set_cons_succ]))
  refine wpPl_tl4 rfl (by rfl) (fun K hK => ?_)
  go_simp
  obtain ⟨W5, hW4⟩ : ∃ W5, V1.setCell ⟨b', 3, none⟩ (.slice a1 (G 1).length e1) = W5 := ⟨_, rfl⟩
  have HW1 : Hid (LimAt W5 b' c' m' p' mb' lo n now l S (gon (gon (fun _ => []) 0 (G 0)) 1 (G 1)) (gaN (gaN (fun _ => none) 0 a0) 1 a1) (gcN (gcN (fun _ => 0) 0 e0) 1 e1) ∧ Ext [b'] W4 W5 ∧ Ext [] w W5) := by
    have hL := HV1.out.2.1.listed (i := 1) (L := G 1) (cap := e1) (by omega) HV1.out.2.2.1 HV1.out.2.2.2.2
    rw [show 2 + 1 = 3 from rfl, hW4] at hL
    have hE : Ext [b'] W4 W5 := by rw [← hW4]; exact (HV1.out.1.wide).setCell (.inl (by simp)) _
    have hb := H3.out.2.2
    exact ⟨hL, hE, (HW0.out.2.2).trans' hE (fun x hx => .inr (by simp at hx; omega))⟩
  try rw [hW4]
  refine hK _ _ (fun _ => HW1.out.2.1) ?_
  clear hK K hW4 f5 k5
  try simp only [Act.put, List.setIfInBounds_toArray, List.set_cons_zero, List.set_cons_succ]
  refine wpPl_done4 ?_
  go_wp2_with fail
  rw [rounds_succ]
  have hix := fun W => idx3 (.slice (ga 0) (G 0).length (gc 0)) (.slice (ga 1) (G 1).length (gc 1)) (.slice (ga 2) (G 2).length (gc 2)) W
  go_upto_region 7 with fail
  clear hix
  have HC2 := Lib.hid (lm_clone (ga 2) (gc 2) (G 2) W5.drew ((H.out.1.ext0 (HW1.out.2.2.trans (Ext.refl [] _).drew)).gone 2 (by omega)) (H.out.2 2 (by omega)))
  refine wp_region_p4 [] (hds4 [0, 1, 2, 4, 5] (.tl 3 (hds4 [6] (.tl 7 .done)))) (Ext [b'] W5) (by kernel_rfl) (by kernel_rfl) (fun _ d _ _ _ h => by cases d <;> exact h) (Ext.refl _ _).drew ?_
  repeat (first
    | (refine wpPl_no4 rfl (by rfl) ?_; simp only [Act.put, List.setIfInBounds_toArray, List.set_cons_zero, List.set_cons_succ])
    | (refine wpPl_hd4 ?_ rfl (by rfl) (fun w hSw => ?_) ?_
       rotate_left
       · (clear hSw; go_simp; first | exact ⟨rfl, rfl⟩ | exact rfl)
       simp only [Act.put, List.setIfInBounds_toArray, List.set_cons_zero, List.set_cons_succ]))
  refine wpPl_tl4 rfl (by rfl) (fun K hK => ?_)
  go_simp
  go_at_call 92
  refine HC2.out.mono ?_
  rintro e V2 ⟨a2, e2, rfl, hE, hI, hf⟩
  have hX : Ext [] W5 V2 := (show Ext [] W5 W5.drew from (Ext.refl [] _).drew).trans hE
  have hb := H3.out.2.2
  have hs1 := (HW1.out.2.2).size
  have hLV := (HW1.out.1).ext0 hX
  have f5 := free_of hLV.blk 4
  have k5 := cell_of (j := 4) (v := .slice none 0 0) hLV.blk rfl
  have hlt := (HW1.out.1).lt
  have HV2 := Lib.hid (And.intro hX (And.intro hLV (And.intro hI (And.intro (show ∀ q, a2 = some q → w.heap.size ≤ q.block from fun q hq => Nat.le_trans hs1 (hf q hq).1) (show ∀ q, a2 = some q → q.block < V2.heap.size ∧ q.block ≠ b' ∧ q.block ≠ c' ∧ q.block ≠ m' ∧ q.block ≠ p' ∧ q.block ≠ mb' from fun q hq => by
    have h1 : W5.heap.size ≤ q.block := (hf q hq).1
    have t1 := hlt b' (.inl rfl)
    have t2 := hlt c' (.inr (.inl rfl))
    have t3 := hlt m' (.inr (.inr (.inl rfl)))
    have t4 := hlt p' (.inr (.inr (.inr (.inl rfl))))
    have t5 := hlt mb' (.inr (.inr (.inr (.inr (.inl rfl)))))
    exact ⟨(hf q hq).2, by omega, by omega, by omega, by omega, by omega⟩)))))
  refine hK _ _ (fun _ => HV2.out.1.wide) ?_
  clear hK K hE hI hf hX hb hs1 hLV hlt
  try simp only [Act.put, List.setIfInBounds_toArray, List.set_cons_zero, List.set_cons_succ]
  repeat (first
    | (refine wpPl_no4 rfl (by rfl) ?_; simp only [Act.put, List.setIfInBounds_toArray, List.set_cons_zero, List.set_cons_succ])
    | (refine wpPl_hd4 ?_ rfl (by rfl) (fun w hSw => ?_) ?_
       rotate_left
       · (clear hSw; go_simp; first | exact ⟨rfl, rfl⟩ | exact rfl)
       simp only [Act.put, List.setIfInBounds_toArray, List.set_cons_zero, List.set_cons_succ]))
  refine wpPl_tl4 rfl (by rfl) (fun K hK => ?_)
  go_simp
  obtain ⟨W6, hW4⟩ : ∃ W6, V2.setCell ⟨b', 4, none⟩ (.slice a2 (G 2).length e2) = W6 := ⟨_, rfl⟩
  have HW2 : Hid (LimAt W6 b' c' m' p' mb' lo n now l S (gon (gon (gon (fun _ => []) 0 (G 0)) 1 (G 1)) 2 (G 2)) (gaN (gaN (gaN (fun _ => none) 0 a0) 1 a1) 2 a2) (gcN (gcN (gcN (fun _ => 0) 0 e0) 1 e1) 2 e2) ∧ Ext [b'] W5 W6 ∧ Ext [] w W6) := by
    have hL := HV2.out.2.1.listed (i := 2) (L := G 2) (cap := e2) (by omega) HV2.out.2.2.1 HV2.out.2.2.2.2
    rw [show 2 + 2 = 4 from rfl, hW4] at hL
    have hE : Ext [b'] W5 W6 := by rw [← hW4]; exact (HV2.out.1.wide).setCell (.inl (by simp)) _
    have hb := H3.out.2.2
    exact ⟨hL, hE, (HW1.out.2.2).trans' hE (fun x hx => .inr (by simp at hx; omega))⟩
  try rw [hW4]
  refine hK _ _ (fun _ => HW2.out.2.1) ?_
  clear hK K hW4 f5 k5
  try simp only [Act.put, List.setIfInBounds_toArray, List.set_cons_zero, List.set_cons_succ]
  refine wpPl_done4 ?_
  go_wp2_with fail
  rw [rounds_succ]
  go_wp2
  go_ret
  refine ⟨b', c', m', p', mb', (gaN (gaN (gaN (fun _ => none) 0 a0) 1 a1) 2 a2), (gcN (gcN (gcN (fun _ => 0) 0 e0) 1 e1) 2 e2), rfl, HW2.out.2.2, HW2.out.1.congrG (fun k hk => ?_) (fun _ _ => rfl) (fun _ _ => rfl), ?_⟩
  · rcases lt3 hk with rfl | rfl | rfl <;> rfl
  · have h2 := H2.out
    rintro x (rfl | rfl | rfl | rfl | rfl | ⟨k, hk, q, hq, rfl⟩)
    · exact H3.out.2.2
    · exact H1.out.2.2.1
    · exact H1.out.2.2.2
    · exact h2.2.2.2.1
    · exact h2.2.2.2.2.1
    · rcases lt3 hk with rfl | rfl | rfl
      · exact HV0.out.2.2.2.1 q hq
      · exact HV1.out.2.2.2.1 q hq
      · exact HV2.out.2.2.2.1 q hq
end Go.Proofs.Ytgpoplnfhlfogaa
