/- Package fibre: New, Next. Package fibre: Same, Then, Copy. Package fibre: Then. A fibre and a device side by side: Step once more, in one form. -/
import Derived.Test.YtfojmjkcjdehaaaFbC
namespace Go.Proofs.Ytfojmjkcjdehaaa
open Go Go.RowKit Go.Shelf
attribute [local go_sem] Oper.semAt_some

set_option maxRecDepth 100000 in
set_option maxHeartbeats 800000 in
theorem fb_New_bad (N : Nat) (ao : Option Addr) (cap : Nat) (L : List Tch) (w : World) (hL : TcAt w N ao L) (hl : L.length ≤ 9223372036854775807) (h : tcheck L ≠ 0) :
    Calls Try.prog 35 #[.slice ao L.length cap] w fun e w' => e = .returned (.tuple #[.pointer none, .int .i64 (tcheck L)]) ∧ Ext [] w w' := by
  have HC := Lib.hid (tc_Check N ao cap L w hL hl)
  generalize tcheck L = tc at *
  generalize L.length = n at *
  have hne : (tc != 0) = true := by simpa using h
  clear h hL hl
  go_enter Try.func35, Try.ntmps35
  go_wp2_with fail
  refine HC.out.mono ?_
  rintro e w1 ⟨rfl, hE1⟩
  go_wp2
  go_ret2
  exact ⟨rfl, hE1⟩
set_option maxRecDepth 100000 in
set_option maxHeartbeats 800000 in
theorem fb_New (N : Nat) (ao : Option Addr) (cap : Nat) (L : List Tch) (w : World) (hL : TcAt w N ao L) (hN : N ≤ w.heap.size) (h : tcheck L = 0) :
    Calls Try.prog 35 #[.slice ao L.length cap] w fun e w' => ∃ f, e = .returned (.tuple #[.pointer (some ⟨f, 0, none⟩), .int .i64 0]) ∧ FibAt w' N f L [] ∧ Ext [] w w' ∧ w.heap.size ≤ f := by
  have hlen := (tcheck_zero h).2
  have HC := Lib.hid (tc_Check N ao cap L w hL (by omega))
  have HCL := Lib.hid (fun W (hE : Ext [] w W) => fb_clone N ao cap L W (hL.ext0 hE) (by omega))
  rw [h] at HC
  have HN := Lib.hid hN
  clear hN hL hlen h
  go_enter Try.func35, Try.ntmps35
  go_wp2_with fail
  refine HC.out.mono ?_
  rintro e w1 ⟨rfl, hE1⟩
  go_wp2_with fail
  refine (HCL.out _ hE1).mono ?_
  rintro e w2 ⟨v, rfl, hE2, ho⟩
  obtain ⟨co, cc, rfl, hT, hcc, hcb⟩ := ho.at (N := N)
  have H2 := Lib.hid (And.intro (hE1.trans hE2) (And.intro hT hcc))
  clear hE1 hE2 ho hT hcc hcb
  go_wp2
  go_ret2
  have hE3 : Ext [] w2 (w2.alloc (.cells #[.slice co L.length cc, .slice none 0 0, .bool true] 109)) := (Ext.refl _ _).alloc _
  refine ⟨w2.heap.size, rfl, ⟨by have := HN.out; have := H2.out.1.size; omega, co, cc, none, 0, World.alloc_heap_new _ _, H2.out.2.1.ext0 hE3, TcAt.nil' _ _, H2.out.2.2⟩, H2.out.1.trans hE3, H2.out.1.size⟩

set_option maxRecDepth 100000 in
set_option maxHeartbeats 800000 in
theorem fb_Next_none (v : Value) (w : World) (hL : Hid (Calls Try.prog 39 #[v] (w.alloc (.cells #[.int .i64 0, .int .i64 0, .int .u64 0] 82)) fun e w' => e = .returned (.int .i64 0) ∧ (w.alloc (.cells #[.int .i64 0, .int .i64 0, .int .u64 0] 82)) = w')) :
    Calls Try.prog 49 #[v] w fun e w' => e = .returned (.tuple #[.agg #[.int .i64 0, .int .i64 0, .int .u64 0], .bool false]) ∧ Ext [] w w' := by
  obtain ⟨w0, hw0⟩ : ∃ w0, w.alloc (.cells #[.int .i64 0, .int .i64 0, .int .u64 0] 82) = w0 := ⟨_, rfl⟩
  obtain ⟨nb, hnb⟩ : ∃ nb, w.heap.size = nb := ⟨_, rfl⟩
  have hb0 : w0.heap[nb]? = some (.cells #[.int .i64 0, .int .i64 0, .int .u64 0] 82 (0, 0)) := by rw [← hw0, ← hnb]; exact World.alloc_heap_new _ _
  have H0 : Hid (Ext [] w w0 ∧ w0.heap[nb]? = some (.cells #[.int .i64 0, .int .i64 0, .int .u64 0] 82 (0, 0))) := ⟨by rw [← hw0]; exact (Ext.refl _ _).alloc _, hb0⟩
  rw [hw0] at hL
  obtain ⟨m0, m1, m2⟩ := three' hb0
  have f0 := free_of hb0 0
  have f1 := free_of hb0 1
  have f2 := free_of hb0 2
  clear hb0
  go_enter Try.func49, Try.ntmps49
  go_wp2_with fail
  refine hL.out.mono ?_
  rintro e w' ⟨rfl, rfl⟩
  go_wp2
  refine bodyPost_ret (results_ca Try.results49 _ _ nb 82 #[.int .i64 0, .int .i64 0, .int .u64 0] (0, 0) _ _ rfl (tri_set H0.out.2 _ _ _) rfl Try.underlying82 rfl (by kernel_rfl)) rfl ?_
  exact ⟨rfl, ((H0.out.1.setCell (.inr (show w.heap.size ≤ nb by omega)) _).setCell (.inr (show w.heap.size ≤ nb by omega)) _).setCell (.inr (show w.heap.size ≤ nb by omega)) _⟩
set_option maxRecDepth 100000 in
set_option maxHeartbeats 800000 in
theorem fb_Next (f N : Nat) (t : Tch) (r dn : List Tch) (w : World) (h : FibAt w N f (t :: r) dn) :
    Calls Try.prog 49 #[.pointer (some ⟨f, 0, none⟩)] w fun e w' => e = .returned (.tuple #[.agg #[.int .i64 t.kd, .int .i64 t.at', .int .u64 t.wd], .bool true]) ∧ Ext [] w w' := by
  obtain ⟨w0, hw0⟩ : ∃ w0, w.alloc (.cells #[.int .i64 0, .int .i64 0, .int .u64 0] 82) = w0 := ⟨_, rfl⟩
  obtain ⟨nb, hnb⟩ : ∃ nb, w.heap.size = nb := ⟨_, rfl⟩
  have hb0 : w0.heap[nb]? = some (.cells #[.int .i64 0, .int .i64 0, .int .u64 0] 82 (0, 0)) := by rw [← hw0, ← hnb]; exact World.alloc_heap_new _ _
  have hE0 : Ext [] w w0 := by rw [← hw0]; exact (Ext.refl _ _).alloc _
  have H0 := Lib.hid (And.intro hE0 hb0)
  have HL := Lib.hid (fb_Left f N (t :: r) dn w0 (h.ext0 hE0))
  have HH := Lib.hid (fb_head f N t r dn w0 (h.ext0 hE0))
  have hl0 : (((t :: r).length : Int) == 0) = false := by simp; omega
  clear hb0 hE0 h
  go_enter Try.func49, Try.ntmps49
  go_wp2_with fail
  refine HL.out.mono ?_
  rintro e w' ⟨rfl, rfl⟩
  go_wp2_with fail
  refine HH.out.mono ?_
  rintro e w1 ⟨rfl, hE1⟩
  have hb1 := hE1.at H0.out.2 (by simp)
  obtain ⟨m0, m1, m2⟩ := three' hb1
  have f0 := free_of hb1 0
  have f1 := free_of hb1 1
  have f2 := free_of hb1 2
  have H1 := Lib.hid (And.intro (H0.out.1.trans hE1) hb1)
  clear hE1 hb1
  obtain ⟨k, a, x⟩ := t
  dsimp only at *
  go_wp2
  refine bodyPost_ret (results_ca Try.results49 _ _ nb 82 #[.int .i64 k, .int .i64 a, .int .u64 x] (0, 0) _ _ rfl (tri_set H1.out.2 _ _ _) rfl Try.underlying82 rfl (by kernel_rfl)) rfl ?_
  exact ⟨rfl, ((H1.out.1.setCell (.inr (show w.heap.size ≤ nb by omega)) _).setCell (.inr (show w.heap.size ≤ nb by omega)) _).setCell (.inr (show w.heap.size ≤ nb by omega)) _⟩
end Go.Proofs.Ytfojmjkcjdehaaa
namespace Go.Proofs.Ytfojmjkcjdehaaa
open Go Go.RowKit Go.Shelf
attribute [local go_sem] Oper.semAt_some

set_option maxHeartbeats 400000 in
theorem fb_Same_nn (a b : Option Addr) (w : World) (ha : NoneF w (.pointer a)) (hb : NoneF w (.pointer b)) :
    Calls Try.prog 41 #[.pointer a, .pointer b] w fun e w' => e = .returned (.bool true) ∧ w = w' := by
  have HA := Lib.hid (fb_isnone _ w ha)
  have HB := Lib.hid (fb_isnone _ w hb)
  clear ha hb
  go_enter Try.func41, Try.ntmps41
  go_wp2_with fail
  refine HA.out.mono ?_
  rintro e w' ⟨rfl, rfl⟩
  go_wp2_with fail
  refine HA.out.mono ?_
  rintro e w' ⟨rfl, rfl⟩
  go_wp2_with fail
  refine HB.out.mono ?_
  rintro e w' ⟨rfl, rfl⟩
  go_wp2
  go_ret
  exact ⟨rfl, rfl⟩
set_option maxHeartbeats 400000 in
theorem fb_Same_fn (b : Option Addr) (f N : Nat) (L dn : List Tch) (w : World) (ha : FibAt w N f L dn) (hb : NoneF w (.pointer b)) :
    Calls Try.prog 41 #[.pointer (some ⟨f, 0, none⟩), .pointer b] w fun e w' => e = .returned (.bool false) ∧ w = w' := by
  have HA := Lib.hid (fb_none f N L dn w ha)
  have HB := Lib.hid (fb_isnone _ w hb)
  clear ha hb
  go_enter Try.func41, Try.ntmps41
  go_wp2_with fail
  refine HA.out.mono ?_
  rintro e w' ⟨rfl, rfl⟩
  go_wp2_with fail
  refine HB.out.mono ?_
  rintro e w' ⟨rfl, rfl⟩
  go_wp2_with fail
  refine HA.out.mono ?_
  rintro e w' ⟨rfl, rfl⟩
  go_wp2
  go_ret
  exact ⟨rfl, rfl⟩
set_option maxHeartbeats 400000 in
theorem fb_Same_nf (a : Option Addr) (f N : Nat) (L dn : List Tch) (w : World) (ha : NoneF w (.pointer a)) (hb : FibAt w N f L dn) :
    Calls Try.prog 41 #[.pointer a, .pointer (some ⟨f, 0, none⟩)] w fun e w' => e = .returned (.bool false) ∧ w = w' := by
  have HA := Lib.hid (fb_isnone _ w ha)
  have HB := Lib.hid (fb_none f N L dn w hb)
  clear ha hb
  go_enter Try.func41, Try.ntmps41
  go_wp2_with fail
  refine HA.out.mono ?_
  rintro e w' ⟨rfl, rfl⟩
  go_wp2_with fail
  refine HA.out.mono ?_
  rintro e w' ⟨rfl, rfl⟩
  go_wp2_with fail
  refine HB.out.mono ?_
  rintro e w' ⟨rfl, rfl⟩
  go_wp2
  go_ret
  exact ⟨rfl, rfl⟩
set_option maxRecDepth 100000 in
set_option maxHeartbeats 1600000 in
theorem fb_Same (f1 f2 N N' : Nat) (A da B db : List Tch) (w : World) (hA : FibAt w N f1 A da) (hB : FibAt w N' f2 B db) (l1 : A.length ≤ 1000000) (l2 : da.length ≤ 1000000) (l3 : B.length ≤ 1000000) (l4 : db.length ≤ 1000000) :
    Calls Try.prog 41 #[.pointer (some ⟨f1, 0, none⟩), .pointer (some ⟨f2, 0, none⟩)] w fun e w' => e = .returned (.bool (decide (da = db) && decide (A = B))) ∧ Ext [] w w' := by
  have HA := Lib.hid (fb_none f1 N A da w hA)
  have HB := Lib.hid (fb_none f2 N' B db w hB)
  obtain ⟨_, lo1, lc1, po1, pc1, h1, ha, hda, _⟩ := hA
  obtain ⟨_, lo2, lc2, po2, pc2, h2, hb, hdb, _⟩ := hB
  obtain ⟨k0, k1, k2⟩ := three' h1
  obtain ⟨q0, q1, q2⟩ := three' h2
  have HD := Lib.hid (fun n => tc_equal N N' po1 po2 pc1 pc2 da db (w.drewN n) (hda.ext0 ((Ext.refl _ _).drewN n)) (hdb.ext0 ((Ext.refl _ _).drewN n)) (by omega) (by omega))
  have HL := Lib.hid (fun n => tc_equal N N' lo1 lo2 lc1 lc2 A B (w.drewN n) (ha.ext0 ((Ext.refl _ _).drewN n)) (hb.ext0 ((Ext.refl _ _).drewN n)) (by omega) (by omega))
  generalize A.length = nA at *
  generalize da.length = nda at *
  generalize B.length = nB at *
  generalize db.length = ndb at *
  generalize decide (da = db) = e1 at *
  generalize decide (A = B) = e2 at *
  clear h1 h2 ha hda hb hdb l1 l2 l3 l4
  cases e1 <;> cases e2
  all_goals
    go_enter Try.func41, Try.ntmps41
    go_wp2_with fail
    refine HA.out.mono ?_
    rintro e w' ⟨rfl, rfl⟩
    go_wp2_with fail
    refine HB.out.mono ?_
    rintro e w' ⟨rfl, rfl⟩
    go_wp2
    go_quiet ((first
      | (go_at_call_of 94 (Value.slice po1 nda pc1); exact Calls.quiet_of (HD.out _))
      | (go_at_call_of 94 (Value.slice lo1 nA lc1); exact Calls.quiet_of (HL.out _))))
    go_wp2
    go_ret
    exact ⟨rfl, (Ext.refl [] w).drewN _⟩
end Go.Proofs.Ytfojmjkcjdehaaa
namespace Go.Proofs.Ytfojmjkcjdehaaa
open Go Go.RowKit Go.Shelf
attribute [local go_sem] Oper.semAt_some

set_option maxHeartbeats 400000 in
theorem fb_Then1 (b N : Nat) (mo : Option Addr) (mc : Nat) (M : List Tch) (w : World) (hb : w.heap[b]? = some (.cells #[.slice mo M.length mc] 75 (0, 0))) (hM : TcAt w N mo M) (hl : M.length ≤ 9223372036854775807) :
    Calls Try.prog 93 #[.pointer (some ⟨b, 0, none⟩)] w fun e w' => e = .returned (.int .i64 (tcheck M)) ∧ Ext [] w w' := by
  have HC := Lib.hid (tc_Check N mo mc M w hM hl)
  have k0 := cell_of (j := 0) (v := .slice mo M.length mc) hb rfl
  generalize M.length = m at *
  clear hb hM hl
  go_enter Try.func93, Try.ntmps93
  go_wp2_with fail
  refine HC.out.mono ?_
  rintro e w1 ⟨rfl, hE1⟩
  go_wp2
  go_ret
  exact ⟨rfl, hE1⟩

/-- what Then tells -/
def thenE (L dn M : List Tch) : Int := ask2 (tcheck M) (if decide ((4096 : Int) < (dn.length : Int) + (L.length : Int) + (M.length : Int)) = true then 3 else 0)
/-- behind Then -/
def ThenP (N f : Nat) (L dn M : List Tch) (w' : World) : Prop := FibAt w' N f (if thenE L dn M = 0 then L ++ M else L) dn
set_option maxRecDepth 100000 in
set_option maxHeartbeats 2000000 in
theorem fb_Then_none (v : Value) (mo : Option Addr) (m mc : Nat) (w : World) (h : NoneF w v) :
    Calls Try.prog 40 #[v, .slice mo m mc] w fun e w' => e = .returned (.int .i64 1) ∧ Ext [] w w' := by
  have HN := Lib.hid (fb_isnone v _ (h.ext ((Ext.refl [] w).alloc (.cells #[.slice mo m mc] 75))))
  clear h
  go_enter Try.func40, Try.ntmps40
  go_wp2_with fail
  refine HN.out.mono ?_
  rintro e w' ⟨rfl, rfl⟩
  go_wp2
  go_ret
  exact ⟨rfl, (Ext.refl _ _).alloc _⟩
set_option maxRecDepth 100000 in
set_option maxHeartbeats 4000000 in
theorem fb_Then (f N : Nat) (L dn : List Tch) (mo : Option Addr) (mc : Nat) (M : List Tch) (w : World) (h : FibAt w N f L dn) (hM : TcAt w N mo M) (l1 : L.length ≤ 1000000) (l2 : dn.length ≤ 1000000) (l3 : M.length ≤ 1000000) :
    Calls Try.prog 40 #[.pointer (some ⟨f, 0, none⟩), .slice mo M.length mc] w fun e w' => e = .returned (.int .i64 (thenE L dn M)) ∧ ThenP N f L dn M w' ∧ Ext [f] w w' := by
  obtain ⟨w0, hw0⟩ : ∃ w0, w.alloc (.cells #[.slice mo M.length mc] 75) = w0 := ⟨_, rfl⟩
  obtain ⟨nb, hnb⟩ : ∃ nb, w.heap.size = nb := ⟨_, rfl⟩
  have hb0 : w0.heap[nb]? = some (.cells #[.slice mo M.length mc] 75 (0, 0)) := by rw [← hw0, ← hnb]; exact World.alloc_heap_new _ _
  have hE0 : Ext [] w w0 := by rw [← hw0]; exact (Ext.refl _ _).alloc _
  have HF := Lib.hid (h.ext0 hE0)
  have HM0 := Lib.hid (hM.ext0 hE0)
  have HN := Lib.hid (fb_none f N L dn w0 (h.ext0 hE0))
  have hflt : f < nb := by rw [← hnb]; exact h.lt
  obtain ⟨hNf, lo, lc, po, pc, h1, ha, hda, hcap⟩ := h.ext0 hE0
  obtain ⟨k0, k1, k2⟩ := three' h1
  have kb := cell_of (j := 0) (v := .slice mo M.length mc) hb0 rfl
  obtain ⟨c, hc⟩ : ∃ c, decide ((4096 : Int) < (dn.length : Int) + (L.length : Int) + (M.length : Int)) = c := ⟨_, rfl⟩
  have HT1 := Lib.hid (fun W (hE : Ext [] w0 W) => fb_Then1 nb N mo mc M W (hE.at hb0 (by simp)) (HM0.out.ext0 hE) (by omega))
  have HCL := Lib.hid (fun W (hE : Ext [] w0 W) => fb_clone N lo lc L W (ha.ext0 hE) l1)
  have HTE : Hid (thenE L dn M = ask2 (tcheck M) (if c = true then 3 else 0)) := by unfold Hid thenE; rw [hc]
  have q1 : IntKind.i64.wrap ((dn.length : Int) + (L.length : Int)) = (dn.length : Int) + (L.length : Int) := by rw [IntKind.wrap_i64]; omega
  have q2 : IntKind.i64.wrap ((dn.length : Int) + (L.length : Int) + (M.length : Int)) = (dn.length : Int) + (L.length : Int) + (M.length : Int) := by rw [IntKind.wrap_i64]; omega
  have hcU := enters_of Try.func120 (by kernel_rfl) rfl
  have hcT := enters_of Try.func93 (by kernel_rfl) rfl
  have H0 := Lib.hid (And.intro hE0 (And.intro hb0 (And.intro hNf (And.intro h1 (And.intro ha (And.intro hda (And.intro hcap (And.intro hflt (And.intro l1 (And.intro l2 l3))))))))))
  have HLEN := Lib.hid (show (L ++ M).length = L.length + M.length from List.length_append)
  obtain ⟨nl, hnl⟩ : ∃ nl, L.length = nl := ⟨_, rfl⟩
  obtain ⟨nd, hnd⟩ : ∃ nd, dn.length = nd := ⟨_, rfl⟩
  obtain ⟨nm, hnm⟩ : ∃ nm, M.length = nm := ⟨_, rfl⟩
  have HNL := Lib.hid (And.intro hnl (And.intro hnd hnm))
  rw [hnl, hnd, hnm] at hc q2
  rw [hnl, hnd] at q1
  rw [hnl] at k0 HCL
  rw [hnd] at k1
  rw [hnm] at kb hw0 ⊢
  clear hE0 hb0 h hM hNf h1 ha hda hcap l1 l2 l3 hflt hnl hnd hnm
  go_enter Try.func40, Try.ntmps40
  go_wp2_with fail
  try rw [hw0]
  refine HN.out.mono ?_
  rintro e w' ⟨rfl, rfl⟩
  go_upto_region 3 with fail
  try rw [hw0]
  try rw [hnb]
  clear hw0
  refine wp_region_p (hds [0, 1, 2, 3, 4, 5, 6, 7, 8, 9, 10, 11, 12, 13, 14, 15, 16] (tls [17, 18, 19, 20] .done)) (Ext [] w0) (by kernel_rfl) (by kernel_rfl) (fun _ d _ _ _ h => by cases d <;> exact h) (Ext.refl _ _).drew ?_
  repeat (first
    | (refine wpPl_hd ?_ rfl (by rfl) (fun w hSw => ?_) ?_
       rotate_left
       · (have r0 := hSw.cell k0 (by simp); have r1 := hSw.cell k1 (by simp); have r2 := hSw.cell kb (by simp); clear hSw; go_simp; first | exact ⟨rfl, rfl⟩ | exact rfl)
       simp only [Act.put, List.setIfInBounds_toArray, List.set_cons_zero, List.set_cons_succ]))
  refine wpPl_tl rfl (by rfl) (fun K hK => ?_)
  go_simp
  go_at_call 89
  refine (fb_unless c 3 w0.drew).mono ?_
  rintro e w1 ⟨rfl, hE1, hU1⟩
  have hX1 : Ext [] w0 w1 := (Ext.refl [] w0).drew.trans hE1
  refine hK _ _ (fun _ => hX1) ?_
  clear hK K
  try simp only [Act.put, List.setIfInBounds_toArray, List.set_cons_zero, List.set_cons_succ]
  obtain ⟨p1, hp1⟩ : ∃ p1, w0.heap.size = p1 := ⟨_, rfl⟩
  have hp1' : w0.drew.heap.size = p1 := hp1
  rw [hp1'] at hU1
  try rw [hp1']
  try rw [hp1]
  refine wpPl_tl rfl (by rfl) (fun K hK => ?_)
  go_simp
  refine hK _ _ (fun _ => hX1.alloc _) ?_
  clear hK K
  try simp only [Act.put, List.setIfInBounds_toArray, List.set_cons_zero, List.set_cons_succ]
  obtain ⟨w2, hw2⟩ : ∃ w2, w1.alloc (.cells #[.func (.func 93) #[] #[.pointer (some ⟨nb, 0, none⟩)], .func (.func 120) #[] #[.pointer (some ⟨p1, 0, none⟩), .pointer (some ⟨p1 + 1, 0, none⟩)]] 47) = w2 := ⟨_, rfl⟩
  obtain ⟨b2, hb2e⟩ : ∃ b2, w1.heap.size = b2 := ⟨_, rfl⟩
  have hE2 : Ext [] w1 w2 := by rw [← hw2]; exact (Ext.refl _ _).alloc _
  have hb2 : w2.heap[b2]? = some (.cells #[.func (.func 93) #[] #[.pointer (some ⟨nb, 0, none⟩)], .func (.func 120) #[] #[.pointer (some ⟨p1, 0, none⟩), .pointer (some ⟨p1 + 1, 0, none⟩)]] 47 (0, 0)) := by rw [← hw2, ← hb2e]; exact World.alloc_heap_new _ _
  rw [hw2, hb2e]
  have H2 := Lib.hid (And.intro (hX1.trans hE2) (And.intro (hU1.ext0 hE2) hb2))
  clear hE2 hb2 hw2 hb2e hU1 hX1 hE1 hp1 hp1'
  refine wpPl_tl rfl (by rfl) (fun K hK => ?_)
  go_simp
  go_at_call 88
  refine (fb_asked2 b2 93 120 _ _ (tcheck M) (if c = true then 3 else 0) w2 _ _ H2.out.2.2 (hcT _) (hcU _) (fun W hE => HT1.out W (H2.out.1.trans hE)) (fun W hE => (fb_unless1 p1 (p1 + 1) c 3 W (H2.out.2.1.ext0 hE)).mono (fun _ _ h => ⟨h.1, h.2 ▸ Ext.refl _ _⟩))).mono ?_
  rintro e w3 ⟨rfl, hE3⟩
  have hX3 := H2.out.1.trans hE3
  refine hK _ _ (fun _ => hX3) ?_
  clear hK K hE3
  try simp only [Act.put, List.setIfInBounds_toArray, List.set_cons_zero, List.set_cons_succ]
  rw [← HTE.out]
  obtain ⟨te, hte⟩ : ∃ te, thenE L dn M = te := ⟨_, rfl⟩
  have HTT := Lib.hid hte
  rw [hte]
  have H3 := Lib.hid hX3
  have HX := Lib.hid (And.intro q1 q2)
  clear hte hX3 q1 q2 hcU hcT HT1 hc
  refine wpPl_last rfl (by rfl) ?_
  go_simp
  have r0 := H3.out.cell k0 (by simp)
  have r1 := H3.out.cell k1 (by simp)
  have r2 := H3.out.cell kb (by simp)
  clear k0 k1 k2 kb
  by_cases h0 : te = 0
  · subst h0
    obtain ⟨i0, hi, hz0, hz1, hz2⟩ := info_parts infoTch
    have hI1 := Lib.hid hi
    have hI2 := Lib.hid hz0
    have hI3 := Lib.hid hz1
    have hI4 := Lib.hid hz2
    clear hi hz0 hz1 hz2
    go_upto_region 5 with fail
    refine wp_region_p (hds [0, 1, 2, 3, 4, 5, 7] (tls [6, 8, 9, 10, 11, 12] .done)) (Ext [] w3) (by kernel_rfl) (by kernel_rfl) (fun _ d _ _ _ h => by cases d <;> exact h) (Ext.refl _ _).drew ?_
    repeat (first
      | (refine wpPl_hd ?_ rfl (by rfl) (fun w hSw => ?_) ?_
         rotate_left
         · (have q0 := hSw.cell r0 (by simp); have q2 := hSw.cell r2 (by simp); clear hSw; go_simp; first | exact ⟨rfl, rfl⟩ | exact rfl)
         simp only [Act.put, List.setIfInBounds_toArray, List.set_cons_zero, List.set_cons_succ]))
    refine wpPl_tl rfl (by rfl) (fun K hK => ?_)
    go_simp
    go_at_call 86
    refine (HCL.out _ (H3.out.trans (Ext.refl [] w3).drew)).mono ?_
    rintro e w4 ⟨v', rfl, hE4, ho⟩
    obtain ⟨co, cc, rfl, _, _, _⟩ := ho.at (N := N)
    have hX4 : Ext [] w3 w4 := (Ext.refl [] w3).drew.trans hE4
    have HO := Lib.hid ho
    rw [HNL.out.1] at HO ⊢
    refine hK _ _ (fun _ => hX4) ?_
    clear hK K hE4 ho
    try simp only [Act.put, List.setIfInBounds_toArray, List.set_cons_zero, List.set_cons_succ]
    have H4 := Lib.hid hX4
    clear hX4
    refine wpPl_tl rfl (by rfl) (fun K hK => ?_)
    refine of_step (by rfl) (step_append_any (ops := #[]) (E := True) (by rfl) (.tmp 36) (.tmp 37) 75 (by rfl) _ 82 i0 (.agg #[.int .i64 0, .int .i64 0, .int .u64 0]) 3 24 Try.underlying75 hI1.out hI2.out hI3.out hI4.out rfl (by omega) (.slice co nl cc) L.length (rowC (tR L) L.length) (by rfl) (by have := HO.out; unfold TcOwn at this; exact this) mo nm mc (rowC (tR M) M.length) (by rfl) (by rw [← HNL.out.2.2]; exact (HM0.out.ext0 (H3.out.trans H4.out)).src) ?_ ?_ ?_ ?_)
    · have := H0.out.2.2.2.2.2.2.2.2
      have := HNL.out
      unfold maxLen
      omega
    · have := H0.out.2.2.2.2.2.2.2.2
      have := HNL.out
      omega
    · exact H4.out.size
    intro v5 w5 ho5 hE5 hX5
    have hX5' : Ext [] w3 w5 := hX5 w3 H4.out (Nat.le_refl _)
    have ho6 : TcOwn w5 w3.drew.heap.size v5 (L ++ M) := by
      unfold TcOwn
      rw [tR_append, List.length_append, HNL.out.1, HNL.out.2.2]
      rw [HNL.out.1, HNL.out.2.2] at ho5
      exact ho5
    obtain ⟨vo, vc, rfl, hT5, hT5c, _⟩ := ho6.at (N := N)
    rw [HLEN.out, HNL.out.1, HNL.out.2.2] at hT5c ⊢
    refine hK _ _ (fun _ => hX5') ?_
    clear hK K
    try simp only [Act.put, List.setIfInBounds_toArray, List.set_cons_zero, List.set_cons_succ]
    have hb5 := hX5'.at (H3.out.at H0.out.2.2.2.1 (by simp)) (by simp)
    have k0' := cell_of (j := 0) (v := .slice lo nl lc) hb5 (by rw [← HNL.out.1]; rfl)
    have f0' := free_of hb5 0
    have H5 := Lib.hid (And.intro hX5' (And.intro hb5 (And.intro hT5 hT5c)))
    clear ho5 hE5 hX5 hX5' ho6 hT5 hT5c hb5
    refine wpPl_tl rfl (by rfl) (fun K hK => ?_)
    go_simp
    refine hK _ _ (fun _ => H5.out.1) ?_
    clear hK K
    try simp only [Act.put, List.setIfInBounds_toArray, List.set_cons_zero, List.set_cons_succ]
    refine wpPl_tl rfl (by rfl) (fun K hK => ?_)
    go_simp
    refine hK _ _ (fun _ => H5.out.1) ?_
    clear hK K
    try simp only [Act.put, List.setIfInBounds_toArray, List.set_cons_zero, List.set_cons_succ]
    refine wpPl_tl rfl (by rfl) (fun K hK => ?_)
    go_simp
    refine hK _ _ (fun _ => H5.out.1) ?_
    clear hK K
    try simp only [Act.put, List.setIfInBounds_toArray, List.set_cons_zero, List.set_cons_succ]
    refine wpPl_last rfl (by rfl) ?_
    go_simp
    go_wp2
    go_ret
    unfold ThenP
    rw [HTT.out, if_pos rfl]
    have hE6 : Ext [f] w5 (w5.setCell ⟨f, 0, none⟩ (.slice vo (nl + nm) vc)) := (Ext.refl [f] w5).setCell (.inl (by simp)) _
    have hno : NoTc w5 N [f] := fun q hq => by
      simp at hq
      subst hq
      exact .inr ⟨H0.out.2.2.1, fun cur hb => by rw [H5.out.2.1] at hb; simp at hb⟩
    refine ⟨rfl, ⟨H0.out.2.2.1, vo, vc, po, pc, ?_, H5.out.2.2.1.ext hE6 hno, (H0.out.2.2.2.2.2.1.ext0 (H3.out.trans H5.out.1)).ext hE6 hno, by rw [HLEN.out, HNL.out.1, HNL.out.2.2]; exact H5.out.2.2.2⟩, ((H0.out.1.trans (H3.out.trans H5.out.1)).wide).trans hE6⟩
    rw [HLEN.out, HNL.out.1, HNL.out.2.2]
    exact block_set3 H5.out.2.1 _
  · have hne : (te == 0) = false := by simpa using h0
    have HH := Lib.hid h0
    clear h0
    go_wp2
    go_ret
    unfold ThenP
    rw [HTT.out, if_neg HH.out]
    refine ⟨rfl, HF.out.ext0 H3.out, ?_⟩
    exact (H0.out.1.trans H3.out).wide
end Go.Proofs.Ytfojmjkcjdehaaa
namespace Go.Proofs.Ytfojmjkcjdehaaa
open Go Go.RowKit Go.Shelf
attribute [local go_sem] Oper.semAt_some

/-- a step, in plain words: what is told, what is left, what was done, the device -/
structure StepR where
  t : Tch
  e : Int
  L : List Tch
  dn : List Tch
  D : Dv
def fstep (L dn : List Tch) (D : Dv) : StepR := match L with
  | [] => ⟨tch0, 5, [], dn, D⟩
  | t :: r => if playE D [t] = 0 then ⟨stepT D t, 0, r, dn ++ [stepT D t], playD D [t]⟩ else ⟨tch0, playE D [t], t :: r, dn, playD D [t]⟩
theorem playD_ok {D : Dv} (h : DvOk D) (L : List Tch) : DvOk (playD D L) := by
  unfold playD
  split
  · exact playL_ok h L
  · exact h
theorem playD_n (D : Dv) (L : List Tch) : (playD D L).n = D.n := by
  unfold playD
  split
  · exact playL_n D L
  · rfl
/-- a fibre and a device, made since N -/
structure FD (W : World) (N f d lb sb : Nat) (L dn : List Tch) (D : Dv) : Prop where
  fib : FibAt W N f L dn
  dev : DevAt W d lb sb D
  ok : DvOk D
  hd : N ≤ d
  hl : N ≤ lb
  hs : N ≤ sb
theorem FD.ext0 {W W' : World} {N f d lb sb : Nat} {L dn : List Tch} {D : Dv} (h : FD W N f d lb sb L dn D) (hE : Ext [] W W') : FD W' N f d lb sb L dn D := ⟨h.fib.ext0 hE, h.dev.ext0 hE, h.ok, h.hd, h.hl, h.hs⟩
theorem FD.noTc {W : World} {N f d lb sb : Nat} {L dn : List Tch} {D : Dv} (h : FD W N f d lb sb L dn D) : NoTc W N [f, d, lb, sb] := by
  intro q hq
  rcases List.mem_cons.1 hq with rfl | hq
  · exact h.fib.noTc _ (by simp)
  · exact h.dev.noTc h.hd h.hl h.hs (m := [d, lb, sb]) (fun j hj => by simpa using hj) q hq
theorem FD.fd {W : World} {N f d lb sb : Nat} {L dn : List Tch} {D : Dv} (h : FD W N f d lb sb L dn D) : f ∉ [d, lb, sb] := by
  obtain ⟨_, lo, lc, po, pc, h1, _⟩ := h.fib
  exact h.dev.noF h1
theorem FD.keep {W : World} {N f d lb sb b : Nat} {L dn : List Tch} {D : Dv} {cs : Array Value} {fr : Nat × Nat} (h : FD W N f d lb sb L dn D) (hb : W.heap[b]? = some (.cells cs 82 fr)) : b ∉ [f, d, lb, sb] := by
  obtain ⟨_, lo, lc, po, pc, h1, _⟩ := h.fib
  intro hq
  rcases List.mem_cons.1 hq with rfl | hq
  · rw [h1] at hb
    simp at hb
  · obtain ⟨⟨cl, cs', wv, g1, _⟩, ⟨c2, g2, _⟩, ⟨c3, g3, _⟩, _⟩ := h.dev
    simp at hq
    rcases hq with rfl | rfl | rfl
    · rw [g1] at hb; simp at hb
    · rw [g2] at hb; simp at hb
    · rw [g3] at hb; simp at hb
/-- what Step leaves -/
def StepP (W : World) (N f d lb sb : Nat) (r : StepR) (W' : World) : Prop := FD W' N f d lb sb r.L r.dn r.D ∧ Ext [f, d, lb, sb] W W'
theorem fb_StepF (N f d lb sb : Nat) (L dn : List Tch) (D : Dv) (w : World) (h : FD w N f d lb sb L dn D) (hb : dn.length ≤ 999999) :
    Calls Try.prog 38 #[.pointer (some ⟨f, 0, none⟩), .pointer (some ⟨d, 0, none⟩)] w fun e w' => e = .returned (.tuple #[.agg #[.int .i64 (fstep L dn D).t.kd, .int .i64 (fstep L dn D).t.at', .int .u64 (fstep L dn D).t.wd], .int .i64 (fstep L dn D).e]) ∧ StepP w N f d lb sb (fstep L dn D) w' := by
  cases L with
  | nil => exact (fb_Step_end f N dn d lb sb D w h.fib h.dev).mono fun e w' ⟨he, hE⟩ => ⟨he, h.ext0 hE, hE.wide⟩
  | cons t r =>
    by_cases hp : playE D [t] = 0
    · have hf : fstep (t :: r) dn D = ⟨stepT D t, 0, r, dn ++ [stepT D t], playD D [t]⟩ := if_pos hp
      rw [hf]
      exact (fb_Step_ok f N t r dn d lb sb D w h.fib h.dev h.ok h.hd h.hl h.hs hb hp).mono fun e w' ⟨he, hF, hD, hE⟩ => ⟨he, ⟨hF, hD, playD_ok h.ok _, h.hd, h.hl, h.hs⟩, hE⟩
    · have hf : fstep (t :: r) dn D = ⟨tch0, playE D [t], t :: r, dn, playD D [t]⟩ := if_neg hp
      rw [hf]
      exact (fb_Step_bad f N t r dn d lb sb D w h.fib h.dev h.ok h.hd h.hl h.hs hb hp).mono fun e w' ⟨he, hD, hE⟩ => ⟨he, ⟨h.fib.ext hE h.fd (h.dev.noTc h.hd h.hl h.hs (fun j hj => by simpa using hj)), hD, playD_ok h.ok _, h.hd, h.hl, h.hs⟩, hE.sub (fun q hq => List.mem_cons_of_mem _ hq)⟩
end Go.Proofs.Ytfojmjkcjdehaaa
