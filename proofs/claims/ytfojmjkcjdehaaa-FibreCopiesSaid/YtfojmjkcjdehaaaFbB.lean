/- Package fibre: Step (printed by mkFb.py). -/
import Derived.Test.YtfojmjkcjdehaaaFbA
namespace Go.Proofs.Ytfojmjkcjdehaaa
open Go Go.RowKit Go.Shelf
attribute [local go_sem] Oper.semAt_some

theorem DevAt.noF {w : World} {d lb sb f : Nat} {D : Dv} {cs : Array Value} {fr : Nat × Nat} (h : DevAt w d lb sb D) (hf : w.heap[f]? = some (.cells cs 109 fr)) : f ∉ [d, lb, sb] := by
  obtain ⟨⟨cl, cs, wv, h1, _⟩, ⟨c2, h2, _⟩, ⟨c3, h3, _⟩, _⟩ := h
  intro hq
  simp at hq
  rcases hq with rfl | rfl | rfl
  · rw [h1] at hf; simp at hf
  · rw [h2] at hf; simp at hf
  · rw [h3] at hf; simp at hf
/-- behind stores into a block of touches -/
theorem DevAt.extT {w w' : World} {d lb sb nb : Nat} {D : Dv} {cs : Array Value} {fr : Nat × Nat} (h : DevAt w d lb sb D) (hE : Ext [nb] w w') (hb : w.heap[nb]? = some (.cells cs 82 fr)) : DevAt w' d lb sb D := by
  have key : ∀ (q : Nat) (c : Array Value) (e : TypeId) (f : Nat × Nat), w.heap[q]? = some (.cells c e f) → e ≠ 82 → q ∉ [nb] := fun q c e f hq he hm => by
    simp at hm
    rw [hm, hb] at hq
    simp at hq
    exact he hq.2.1.symm
  have h' := h
  obtain ⟨⟨cl, cs', wv, h1, _⟩, ⟨c2, h2, _⟩, ⟨c3, h3, _⟩, _⟩ := h'
  exact h.ext hE (key _ _ _ _ h1 (by decide)) (key _ _ _ _ h2 (by decide)) (key _ _ _ _ h3 (by decide)) (fun g cur hg => key _ _ _ _ hg (by decide))
/-- a touch as it was done -/
def stepT (D : Dv) (t : Tch) : Tch := if t.kd = 1 then ⟨1, t.at', (D.load t.at').1⟩ else t
theorem TcAt.one {w : World} {N b : Nat} {k a x : Int} (h : w.heap[b]? = some (.cells #[.int .i64 k, .int .i64 a, .int .u64 x] 82 (0, 0))) : TcAt w N (some ⟨b, 0, none⟩) [⟨k, a, x⟩] := by
  obtain ⟨q0, q1, q2⟩ := three' h
  refine ⟨.inr ⟨b, 0, rfl, fun i hi j hj => ?_⟩, (.inr fun p hp => by cases hp; exact ⟨lt_of_block h, .inr ⟨_, h⟩⟩)⟩
  have : i = 0 := by simp at hi; omega
  subst this
  match j, hj with
  | 0, _ => exact q0
  | 1, _ => exact q1
  | 2, _ => exact q2
set_option maxRecDepth 100000 in
set_option maxHeartbeats 2000000 in
theorem fb_Step_nof (v : Value) (d : Value) (w : World) (h : NoneF w v) :
    Calls Try.prog 38 #[v, d] w fun e w' => e = .returned (.tuple #[.agg #[.int .i64 0, .int .i64 0, .int .u64 0], .int .i64 1]) ∧ Ext [] w w' := by
  obtain ⟨w0, hw0⟩ : ∃ w0, w.alloc (.cells #[.int .i64 0, .int .i64 0, .int .u64 0] 82) = w0 := ⟨_, rfl⟩
  obtain ⟨nb, hnb⟩ : ∃ nb, w.heap.size = nb := ⟨_, rfl⟩
  have hE0 : Ext [] w w0 := by rw [← hw0]; exact (Ext.refl _ _).alloc _
  have hb0 : w0.heap[nb]? = some (.cells #[.int .i64 0, .int .i64 0, .int .u64 0] 82 (0, 0)) := by rw [← hw0, ← hnb]; exact World.alloc_heap_new _ _
  have H0 := Lib.hid (And.intro hE0 hb0)
  have hcU := enters_of Try.func120 (by kernel_rfl) rfl
  have HN := Lib.hid (fun W (hE : Ext [] w W) => h.ext hE)
  clear hE0 hb0 h
  go_enter Try.func38, Try.ntmps38
  go_wp2_with (fail)
  refine (fb_isnone v w0 (HN.out _ H0.out.1)).mono ?_
  rintro e w' ⟨rfl, rfl⟩
  go_wp2_with fail
  refine (fb_unless true 1 _).mono ?_
  rintro e w1 ⟨rfl, hE1, hU1⟩
  have H1 := Lib.hid (And.intro (H0.out.1.trans hE1) (And.intro (hE1.at H0.out.2 (by simp)) hU1))
  clear hE1 hU1
  go_wp2_with fail
  refine (fb_Left_none v w1 (HN.out _ H1.out.1)).mono ?_
  rintro e w' ⟨rfl, rfl⟩
  go_wp2_with fail
  refine (fb_unless true 5 _).mono ?_
  rintro e w2 ⟨rfl, hE2, hU2⟩
  obtain ⟨p1, hp1⟩ : ∃ p1, w0.heap.size = p1 := ⟨_, rfl⟩
  obtain ⟨p2, hp2⟩ : ∃ p2, w1.heap.size = p2 := ⟨_, rfl⟩
  obtain ⟨w3, hw3⟩ : ∃ w3, w2.alloc (.cells #[.func (.func 120) #[] #[.pointer (some ⟨p1, 0, none⟩), .pointer (some ⟨p1 + 1, 0, none⟩)], .func (.func 120) #[] #[.pointer (some ⟨p2, 0, none⟩), .pointer (some ⟨p2 + 1, 0, none⟩)]] 47) = w3 := ⟨_, rfl⟩
  obtain ⟨b3, hb3⟩ : ∃ b3, w2.heap.size = b3 := ⟨_, rfl⟩
  have hE3 : Ext [] w2 w3 := by rw [← hw3]; exact (Ext.refl _ _).alloc _
  have hbl3 : w3.heap[b3]? = some (.cells #[.func (.func 120) #[] #[.pointer (some ⟨p1, 0, none⟩), .pointer (some ⟨p1 + 1, 0, none⟩)], .func (.func 120) #[] #[.pointer (some ⟨p2, 0, none⟩), .pointer (some ⟨p2 + 1, 0, none⟩)]] 47 (0, 0)) := by rw [← hw3, ← hb3]; exact World.alloc_heap_new _ _
  rw [hp1] at H1
  rw [hp2] at hU2
  have H3 := Lib.hid (And.intro ((H1.out.1.trans hE2).trans hE3) (And.intro ((hE2.trans hE3).at H1.out.2.1 (by simp)) (And.intro (H1.out.2.2.ext0 (hE2.trans hE3)) (And.intro (hU2.ext0 hE3) hbl3))))
  clear hE2 hU2 hE3 hbl3
  rw [hp1, hp2]
  clear hp1 hp2
  go_wp2_with fail
  try rw [hw3]
  try rw [hb3]
  refine (fb_asked2 b3 120 120 _ _ _ _ w3 _ _ H3.out.2.2.2.2 (hcU _) (hcU _) (fun W hE => (fb_unless1 p1 (p1 + 1) true 1 W (H3.out.2.2.1.ext0 hE)).mono (fun _ _ h => ⟨h.1, h.2 ▸ Ext.refl _ _⟩)) (fun W hE => (fb_unless1 p2 (p2 + 1) true 5 W (H3.out.2.2.2.1.ext0 hE)).mono (fun _ _ h => ⟨h.1, h.2 ▸ Ext.refl _ _⟩))).mono ?_
  rintro e w4 ⟨rfl, hE4⟩
  have H4 := Lib.hid (And.intro (H3.out.1.trans hE4) (hE4.at H3.out.2.1 (by simp)))
  clear hE4 hw3 hb3
  obtain ⟨m0, m1, m2⟩ := three' H4.out.2
  have f0 := free_of H4.out.2 0
  have f1 := free_of H4.out.2 1
  have f2 := free_of H4.out.2 2
  go_wp2
  refine bodyPost_ret (results_ca Try.results38 _ _ nb 82 #[.int .i64 0, .int .i64 0, .int .u64 0] (0, 0) _ _ rfl (tri_set H4.out.2 _ _ _) rfl Try.underlying82 rfl (by kernel_rfl)) rfl ?_
  exact ⟨rfl, ((H4.out.1.setCell (.inr (show w.heap.size ≤ nb by omega)) _).setCell (.inr (show w.heap.size ≤ nb by omega)) _).setCell (.inr (show w.heap.size ≤ nb by omega)) _⟩
set_option maxRecDepth 100000 in
set_option maxHeartbeats 2000000 in
theorem fb_Step_nod (f N : Nat) (L dn : List Tch) (bo : Option Addr) (w : World) (h : FibAt w N f L dn) (hd : NoneD w (.pointer bo)) :
    Calls Try.prog 38 #[.pointer (some ⟨f, 0, none⟩), .pointer bo] w fun e w' => e = .returned (.tuple #[.agg #[.int .i64 0, .int .i64 0, .int .u64 0], .int .i64 1]) ∧ Ext [] w w' := by
  obtain ⟨w0, hw0⟩ : ∃ w0, w.alloc (.cells #[.int .i64 0, .int .i64 0, .int .u64 0] 82) = w0 := ⟨_, rfl⟩
  obtain ⟨nb, hnb⟩ : ∃ nb, w.heap.size = nb := ⟨_, rfl⟩
  have hE0 : Ext [] w w0 := by rw [← hw0]; exact (Ext.refl _ _).alloc _
  have hb0 : w0.heap[nb]? = some (.cells #[.int .i64 0, .int .i64 0, .int .u64 0] 82 (0, 0)) := by rw [← hw0, ← hnb]; exact World.alloc_heap_new _ _
  have H0 := Lib.hid (And.intro hE0 hb0)
  have hcU := enters_of Try.func120 (by kernel_rfl) rfl
  have HN := Lib.hid (fun W (hE : Ext [] w W) => And.intro (h.ext0 hE) (hd.ext hE))
  obtain ⟨c, hc⟩ : ∃ c, ((L.length : Int) == 0) = c := ⟨_, rfl⟩
  clear hE0 hb0 h hd
  cases c with
  | true =>
    go_enter Try.func38, Try.ntmps38
    go_wp2_with (fail)
    refine (fb_none f N L dn w0 (HN.out _ H0.out.1).1).mono ?_
    rintro e w' ⟨rfl, rfl⟩
    go_wp2_with fail
    refine (pm_Same_nn bo none w0 (HN.out _ H0.out.1).2 (.inl rfl)).mono ?_
    rintro e w' ⟨rfl, rfl⟩
    go_wp2_with fail
    refine (fb_unless true 1 _).mono ?_
    rintro e w1 ⟨rfl, hE1, hU1⟩
    have H1 := Lib.hid (And.intro (H0.out.1.trans hE1) (And.intro (hE1.at H0.out.2 (by simp)) hU1))
    clear hE1 hU1
    go_wp2_with fail
    refine (fb_Left f N L dn w1 (HN.out _ H1.out.1).1).mono ?_
    rintro e w' ⟨rfl, rfl⟩
    go_wp2_with fail
    refine (fb_unless true 5 _).mono ?_
    rintro e w2 ⟨rfl, hE2, hU2⟩
    obtain ⟨p1, hp1⟩ : ∃ p1, w0.heap.size = p1 := ⟨_, rfl⟩
    obtain ⟨p2, hp2⟩ : ∃ p2, w1.heap.size = p2 := ⟨_, rfl⟩
    obtain ⟨w3, hw3⟩ : ∃ w3, w2.alloc (.cells #[.func (.func 120) #[] #[.pointer (some ⟨p1, 0, none⟩), .pointer (some ⟨p1 + 1, 0, none⟩)], .func (.func 120) #[] #[.pointer (some ⟨p2, 0, none⟩), .pointer (some ⟨p2 + 1, 0, none⟩)]] 47) = w3 := ⟨_, rfl⟩
    obtain ⟨b3, hb3⟩ : ∃ b3, w2.heap.size = b3 := ⟨_, rfl⟩
    have hE3 : Ext [] w2 w3 := by rw [← hw3]; exact (Ext.refl _ _).alloc _
    have hbl3 : w3.heap[b3]? = some (.cells #[.func (.func 120) #[] #[.pointer (some ⟨p1, 0, none⟩), .pointer (some ⟨p1 + 1, 0, none⟩)], .func (.func 120) #[] #[.pointer (some ⟨p2, 0, none⟩), .pointer (some ⟨p2 + 1, 0, none⟩)]] 47 (0, 0)) := by rw [← hw3, ← hb3]; exact World.alloc_heap_new _ _
    rw [hp1] at H1
    rw [hp2] at hU2
    have H3 := Lib.hid (And.intro ((H1.out.1.trans hE2).trans hE3) (And.intro ((hE2.trans hE3).at H1.out.2.1 (by simp)) (And.intro (H1.out.2.2.ext0 (hE2.trans hE3)) (And.intro (hU2.ext0 hE3) hbl3))))
    clear hE2 hU2 hE3 hbl3
    rw [hp1, hp2]
    clear hp1 hp2
    go_wp2_with fail
    try rw [hw3]
    try rw [hb3]
    refine (fb_asked2 b3 120 120 _ _ _ _ w3 _ _ H3.out.2.2.2.2 (hcU _) (hcU _) (fun W hE => (fb_unless1 p1 (p1 + 1) true 1 W (H3.out.2.2.1.ext0 hE)).mono (fun _ _ h => ⟨h.1, h.2 ▸ Ext.refl _ _⟩)) (fun W hE => (fb_unless1 p2 (p2 + 1) true 5 W (H3.out.2.2.2.1.ext0 hE)).mono (fun _ _ h => ⟨h.1, h.2 ▸ Ext.refl _ _⟩))).mono ?_
    rintro e w4 ⟨rfl, hE4⟩
    have H4 := Lib.hid (And.intro (H3.out.1.trans hE4) (hE4.at H3.out.2.1 (by simp)))
    clear hE4 hw3 hb3
    obtain ⟨m0, m1, m2⟩ := three' H4.out.2
    have f0 := free_of H4.out.2 0
    have f1 := free_of H4.out.2 1
    have f2 := free_of H4.out.2 2
    go_wp2
    refine bodyPost_ret (results_ca Try.results38 _ _ nb 82 #[.int .i64 0, .int .i64 0, .int .u64 0] (0, 0) _ _ rfl (tri_set H4.out.2 _ _ _) rfl Try.underlying82 rfl (by kernel_rfl)) rfl ?_
    exact ⟨rfl, ((H4.out.1.setCell (.inr (show w.heap.size ≤ nb by omega)) _).setCell (.inr (show w.heap.size ≤ nb by omega)) _).setCell (.inr (show w.heap.size ≤ nb by omega)) _⟩
  | false =>
    go_enter Try.func38, Try.ntmps38
    go_wp2_with (fail)
    refine (fb_none f N L dn w0 (HN.out _ H0.out.1).1).mono ?_
    rintro e w' ⟨rfl, rfl⟩
    go_wp2_with fail
    refine (pm_Same_nn bo none w0 (HN.out _ H0.out.1).2 (.inl rfl)).mono ?_
    rintro e w' ⟨rfl, rfl⟩
    go_wp2_with fail
    refine (fb_unless true 1 _).mono ?_
    rintro e w1 ⟨rfl, hE1, hU1⟩
    have H1 := Lib.hid (And.intro (H0.out.1.trans hE1) (And.intro (hE1.at H0.out.2 (by simp)) hU1))
    clear hE1 hU1
    go_wp2_with fail
    refine (fb_Left f N L dn w1 (HN.out _ H1.out.1).1).mono ?_
    rintro e w' ⟨rfl, rfl⟩
    go_wp2_with fail
    refine (fb_unless false 5 _).mono ?_
    rintro e w2 ⟨rfl, hE2, hU2⟩
    obtain ⟨p1, hp1⟩ : ∃ p1, w0.heap.size = p1 := ⟨_, rfl⟩
    obtain ⟨p2, hp2⟩ : ∃ p2, w1.heap.size = p2 := ⟨_, rfl⟩
    obtain ⟨w3, hw3⟩ : ∃ w3, w2.alloc (.cells #[.func (.func 120) #[] #[.pointer (some ⟨p1, 0, none⟩), .pointer (some ⟨p1 + 1, 0, none⟩)], .func (.func 120) #[] #[.pointer (some ⟨p2, 0, none⟩), .pointer (some ⟨p2 + 1, 0, none⟩)]] 47) = w3 := ⟨_, rfl⟩
    obtain ⟨b3, hb3⟩ : ∃ b3, w2.heap.size = b3 := ⟨_, rfl⟩
    have hE3 : Ext [] w2 w3 := by rw [← hw3]; exact (Ext.refl _ _).alloc _
    have hbl3 : w3.heap[b3]? = some (.cells #[.func (.func 120) #[] #[.pointer (some ⟨p1, 0, none⟩), .pointer (some ⟨p1 + 1, 0, none⟩)], .func (.func 120) #[] #[.pointer (some ⟨p2, 0, none⟩), .pointer (some ⟨p2 + 1, 0, none⟩)]] 47 (0, 0)) := by rw [← hw3, ← hb3]; exact World.alloc_heap_new _ _
    rw [hp1] at H1
    rw [hp2] at hU2
    have H3 := Lib.hid (And.intro ((H1.out.1.trans hE2).trans hE3) (And.intro ((hE2.trans hE3).at H1.out.2.1 (by simp)) (And.intro (H1.out.2.2.ext0 (hE2.trans hE3)) (And.intro (hU2.ext0 hE3) hbl3))))
    clear hE2 hU2 hE3 hbl3
    rw [hp1, hp2]
    clear hp1 hp2
    go_wp2_with fail
    try rw [hw3]
    try rw [hb3]
    refine (fb_asked2 b3 120 120 _ _ _ _ w3 _ _ H3.out.2.2.2.2 (hcU _) (hcU _) (fun W hE => (fb_unless1 p1 (p1 + 1) true 1 W (H3.out.2.2.1.ext0 hE)).mono (fun _ _ h => ⟨h.1, h.2 ▸ Ext.refl _ _⟩)) (fun W hE => (fb_unless1 p2 (p2 + 1) false 5 W (H3.out.2.2.2.1.ext0 hE)).mono (fun _ _ h => ⟨h.1, h.2 ▸ Ext.refl _ _⟩))).mono ?_
    rintro e w4 ⟨rfl, hE4⟩
    have H4 := Lib.hid (And.intro (H3.out.1.trans hE4) (hE4.at H3.out.2.1 (by simp)))
    clear hE4 hw3 hb3
    obtain ⟨m0, m1, m2⟩ := three' H4.out.2
    have f0 := free_of H4.out.2 0
    have f1 := free_of H4.out.2 1
    have f2 := free_of H4.out.2 2
    go_wp2
    refine bodyPost_ret (results_ca Try.results38 _ _ nb 82 #[.int .i64 0, .int .i64 0, .int .u64 0] (0, 0) _ _ rfl (tri_set H4.out.2 _ _ _) rfl Try.underlying82 rfl (by kernel_rfl)) rfl ?_
    exact ⟨rfl, ((H4.out.1.setCell (.inr (show w.heap.size ≤ nb by omega)) _).setCell (.inr (show w.heap.size ≤ nb by omega)) _).setCell (.inr (show w.heap.size ≤ nb by omega)) _⟩
set_option maxRecDepth 100000 in
set_option maxHeartbeats 2000000 in
theorem fb_Step_end (f N : Nat) (dn : List Tch) (d lb sb : Nat) (D : Dv) (w : World) (h : FibAt w N f [] dn) (hD : DevAt w d lb sb D) :
    Calls Try.prog 38 #[.pointer (some ⟨f, 0, none⟩), .pointer (some ⟨d, 0, none⟩)] w fun e w' => e = .returned (.tuple #[.agg #[.int .i64 0, .int .i64 0, .int .u64 0], .int .i64 5]) ∧ Ext [] w w' := by
  obtain ⟨w0, hw0⟩ : ∃ w0, w.alloc (.cells #[.int .i64 0, .int .i64 0, .int .u64 0] 82) = w0 := ⟨_, rfl⟩
  obtain ⟨nb, hnb⟩ : ∃ nb, w.heap.size = nb := ⟨_, rfl⟩
  have hE0 : Ext [] w w0 := by rw [← hw0]; exact (Ext.refl _ _).alloc _
  have hb0 : w0.heap[nb]? = some (.cells #[.int .i64 0, .int .i64 0, .int .u64 0] 82 (0, 0)) := by rw [← hw0, ← hnb]; exact World.alloc_heap_new _ _
  have H0 := Lib.hid (And.intro hE0 hb0)
  have hcU := enters_of Try.func120 (by kernel_rfl) rfl
  have HN := Lib.hid (fun W (hE : Ext [] w W) => And.intro (h.ext0 hE) (hD.ext0 hE))
  clear hE0 hb0 h hD
  go_enter Try.func38, Try.ntmps38
  go_wp2_with (fail)
  refine (fb_none f N [] dn w0 (HN.out _ H0.out.1).1).mono ?_
  rintro e w' ⟨rfl, rfl⟩
  go_wp2_with fail
  refine (pm_Same_dn none d lb sb D w0 (HN.out _ H0.out.1).2 (.inl rfl)).mono ?_
  rintro e w' ⟨rfl, rfl⟩
  go_wp2_with fail
  refine (fb_unless false 1 _).mono ?_
  rintro e w1 ⟨rfl, hE1, hU1⟩
  have H1 := Lib.hid (And.intro (H0.out.1.trans hE1) (And.intro (hE1.at H0.out.2 (by simp)) hU1))
  clear hE1 hU1
  go_wp2_with fail
  refine (fb_Left f N [] dn w1 (HN.out _ H1.out.1).1).mono ?_
  rintro e w' ⟨rfl, rfl⟩
  go_wp2_with fail
  refine (fb_unless true 5 _).mono ?_
  rintro e w2 ⟨rfl, hE2, hU2⟩
  obtain ⟨p1, hp1⟩ : ∃ p1, w0.heap.size = p1 := ⟨_, rfl⟩
  obtain ⟨p2, hp2⟩ : ∃ p2, w1.heap.size = p2 := ⟨_, rfl⟩
  obtain ⟨w3, hw3⟩ : ∃ w3, w2.alloc (.cells #[.func (.func 120) #[] #[.pointer (some ⟨p1, 0, none⟩), .pointer (some ⟨p1 + 1, 0, none⟩)], .func (.func 120) #[] #[.pointer (some ⟨p2, 0, none⟩), .pointer (some ⟨p2 + 1, 0, none⟩)]] 47) = w3 := ⟨_, rfl⟩
  obtain ⟨b3, hb3⟩ : ∃ b3, w2.heap.size = b3 := ⟨_, rfl⟩
  have hE3 : Ext [] w2 w3 := by rw [← hw3]; exact (Ext.refl _ _).alloc _
  have hbl3 : w3.heap[b3]? = some (.cells #[.func (.func 120) #[] #[.pointer (some ⟨p1, 0, none⟩), .pointer (some ⟨p1 + 1, 0, none⟩)], .func (.func 120) #[] #[.pointer (some ⟨p2, 0, none⟩), .pointer (some ⟨p2 + 1, 0, none⟩)]] 47 (0, 0)) := by rw [← hw3, ← hb3]; exact World.alloc_heap_new _ _
  rw [hp1] at H1
  rw [hp2] at hU2
  have H3 := Lib.hid (And.intro ((H1.out.1.trans hE2).trans hE3) (And.intro ((hE2.trans hE3).at H1.out.2.1 (by simp)) (And.intro (H1.out.2.2.ext0 (hE2.trans hE3)) (And.intro (hU2.ext0 hE3) hbl3))))
  clear hE2 hU2 hE3 hbl3
  rw [hp1, hp2]
  clear hp1 hp2
  go_wp2_with fail
  try rw [hw3]
  try rw [hb3]
  refine (fb_asked2 b3 120 120 _ _ _ _ w3 _ _ H3.out.2.2.2.2 (hcU _) (hcU _) (fun W hE => (fb_unless1 p1 (p1 + 1) false 1 W (H3.out.2.2.1.ext0 hE)).mono (fun _ _ h => ⟨h.1, h.2 ▸ Ext.refl _ _⟩)) (fun W hE => (fb_unless1 p2 (p2 + 1) true 5 W (H3.out.2.2.2.1.ext0 hE)).mono (fun _ _ h => ⟨h.1, h.2 ▸ Ext.refl _ _⟩))).mono ?_
  rintro e w4 ⟨rfl, hE4⟩
  have H4 := Lib.hid (And.intro (H3.out.1.trans hE4) (hE4.at H3.out.2.1 (by simp)))
  clear hE4 hw3 hb3
  obtain ⟨m0, m1, m2⟩ := three' H4.out.2
  have f0 := free_of H4.out.2 0
  have f1 := free_of H4.out.2 1
  have f2 := free_of H4.out.2 2
  go_wp2
  refine bodyPost_ret (results_ca Try.results38 _ _ nb 82 #[.int .i64 0, .int .i64 0, .int .u64 0] (0, 0) _ _ rfl (tri_set H4.out.2 _ _ _) rfl Try.underlying82 rfl (by kernel_rfl)) rfl ?_
  exact ⟨rfl, ((H4.out.1.setCell (.inr (show w.heap.size ≤ nb by omega)) _).setCell (.inr (show w.heap.size ≤ nb by omega)) _).setCell (.inr (show w.heap.size ≤ nb by omega)) _⟩
set_option maxRecDepth 100000 in
set_option maxHeartbeats 2000000 in
theorem fb_Step_bad (f N : Nat) (t : Tch) (r dn : List Tch) (d lb sb : Nat) (D : Dv) (w : World) (h : FibAt w N f (t :: r) dn) (hD : DevAt w d lb sb D) (hn : DvOk D) (hd : N ≤ d) (hlb : N ≤ lb) (hsb : N ≤ sb) (hb : dn.length ≤ 999999) (hp : playE D [t] ≠ 0) :
    Calls Try.prog 38 #[.pointer (some ⟨f, 0, none⟩), .pointer (some ⟨d, 0, none⟩)] w fun e w' => e = .returned (.tuple #[.agg #[.int .i64 0, .int .i64 0, .int .u64 0], .int .i64 (playE D [t])]) ∧ DevPost [d, lb, sb] w d lb sb (playD D [t]) w' := by
  obtain ⟨w0, hw0⟩ : ∃ w0, w.alloc (.cells #[.int .i64 0, .int .i64 0, .int .u64 0] 82) = w0 := ⟨_, rfl⟩
  obtain ⟨nb, hnb⟩ : ∃ nb, w.heap.size = nb := ⟨_, rfl⟩
  have hE0 : Ext [] w w0 := by rw [← hw0]; exact (Ext.refl _ _).alloc _
  have hb0 : w0.heap[nb]? = some (.cells #[.int .i64 0, .int .i64 0, .int .u64 0] 82 (0, 0)) := by rw [← hw0, ← hnb]; exact World.alloc_heap_new _ _
  have H0 := Lib.hid (And.intro hE0 hb0)
  have hcU := enters_of Try.func120 (by kernel_rfl) rfl
  have HN := Lib.hid (fun W (hE : Ext [] w W) => And.intro (h.ext0 hE) (hD.ext0 hE))
  have HNO := Lib.hid (hD.noTc hd hlb hsb (m := [d, lb, sb]) (fun q hq => by simpa using hq))
  have HFD : Hid (f ∉ [d, lb, sb]) := by
    obtain ⟨_, lo, lc, po, pc, h1, _⟩ := h
    exact hD.noF h1
  have HNN := Lib.hid (And.intro hn (And.intro hd (And.intro hlb hsb)))
  have HLT := Lib.hid hb
  have HDL := Lib.hid hD.lt
  have hl0 : (((t :: r).length : Int) == 0) = false := by simp; omega
  clear hE0 hb0 h hD hn hd hlb hsb hb
  go_enter Try.func38, Try.ntmps38
  go_wp2_with (fail)
  refine (fb_none f N (t :: r) dn w0 (HN.out _ H0.out.1).1).mono ?_
  rintro e w' ⟨rfl, rfl⟩
  go_wp2_with fail
  refine (pm_Same_dn none d lb sb D w0 (HN.out _ H0.out.1).2 (.inl rfl)).mono ?_
  rintro e w' ⟨rfl, rfl⟩
  go_wp2_with fail
  refine (fb_unless false 1 _).mono ?_
  rintro e w1 ⟨rfl, hE1, hU1⟩
  have H1 := Lib.hid (And.intro (H0.out.1.trans hE1) (And.intro (hE1.at H0.out.2 (by simp)) hU1))
  clear hE1 hU1
  go_wp2_with fail
  refine (fb_Left f N (t :: r) dn w1 (HN.out _ H1.out.1).1).mono ?_
  rintro e w' ⟨rfl, rfl⟩
  go_wp2_with fail
  refine (fb_unless false 5 _).mono ?_
  rintro e w2 ⟨rfl, hE2, hU2⟩
  obtain ⟨p1, hp1⟩ : ∃ p1, w0.heap.size = p1 := ⟨_, rfl⟩
  obtain ⟨p2, hp2⟩ : ∃ p2, w1.heap.size = p2 := ⟨_, rfl⟩
  obtain ⟨w3, hw3⟩ : ∃ w3, w2.alloc (.cells #[.func (.func 120) #[] #[.pointer (some ⟨p1, 0, none⟩), .pointer (some ⟨p1 + 1, 0, none⟩)], .func (.func 120) #[] #[.pointer (some ⟨p2, 0, none⟩), .pointer (some ⟨p2 + 1, 0, none⟩)]] 47) = w3 := ⟨_, rfl⟩
  obtain ⟨b3, hb3⟩ : ∃ b3, w2.heap.size = b3 := ⟨_, rfl⟩
  have hE3 : Ext [] w2 w3 := by rw [← hw3]; exact (Ext.refl _ _).alloc _
  have hbl3 : w3.heap[b3]? = some (.cells #[.func (.func 120) #[] #[.pointer (some ⟨p1, 0, none⟩), .pointer (some ⟨p1 + 1, 0, none⟩)], .func (.func 120) #[] #[.pointer (some ⟨p2, 0, none⟩), .pointer (some ⟨p2 + 1, 0, none⟩)]] 47 (0, 0)) := by rw [← hw3, ← hb3]; exact World.alloc_heap_new _ _
  rw [hp1] at H1
  rw [hp2] at hU2
  have H3 := Lib.hid (And.intro ((H1.out.1.trans hE2).trans hE3) (And.intro ((hE2.trans hE3).at H1.out.2.1 (by simp)) (And.intro (H1.out.2.2.ext0 (hE2.trans hE3)) (And.intro (hU2.ext0 hE3) hbl3))))
  clear hE2 hU2 hE3 hbl3
  rw [hp1, hp2]
  clear hp1 hp2
  go_wp2_with fail
  try rw [hw3]
  try rw [hb3]
  refine (fb_asked2 b3 120 120 _ _ _ _ w3 _ _ H3.out.2.2.2.2 (hcU _) (hcU _) (fun W hE => (fb_unless1 p1 (p1 + 1) false 1 W (H3.out.2.2.1.ext0 hE)).mono (fun _ _ h => ⟨h.1, h.2 ▸ Ext.refl _ _⟩)) (fun W hE => (fb_unless1 p2 (p2 + 1) false 5 W (H3.out.2.2.2.1.ext0 hE)).mono (fun _ _ h => ⟨h.1, h.2 ▸ Ext.refl _ _⟩))).mono ?_
  rintro e w4 ⟨rfl, hE4⟩
  have H4 := Lib.hid (And.intro (H3.out.1.trans hE4) (hE4.at H3.out.2.1 (by simp)))
  clear hE4 hw3 hb3
  have hcH := enters_of Try.func91 (by kernel_rfl) rfl
  go_wp2_with fail
  refine (fb_head f N t r dn w4 (HN.out _ H4.out.1).1).mono ?_
  rintro e w5 ⟨rfl, hE5⟩
  have hb5 := hE5.at H4.out.2 (by simp)
  obtain ⟨m0, m1, m2⟩ := three' hb5
  have f0 := free_of hb5 0
  have f1 := free_of hb5 1
  have f2 := free_of hb5 2
  obtain ⟨k, a, x⟩ := t
  dsimp only at *
  have H5 := Lib.hid (And.intro (H4.out.1.trans hE5) hb5)
  clear hE5 hb5 hcH hcU hl0
  go_upto_region 6 with fail
  obtain ⟨w6, hw6⟩ : ∃ w6, ((w5.setCell ⟨nb, 0, none⟩ (.int .i64 k)).setCell ⟨nb, 1, none⟩ (.int .i64 a)).setCell ⟨nb, 2, none⟩ (.int .u64 x) = w6 := ⟨_, rfl⟩
  have hb6 : w6.heap[nb]? = some (.cells #[.int .i64 k, .int .i64 a, .int .u64 x] 82 (0, 0)) := by rw [← hw6]; exact tri_set H5.out.2 _ _ _
  have hE6 : Ext [] w w6 := by rw [← hw6]; exact ((H5.out.1.setCell (.inr (show w.heap.size ≤ nb by omega)) _).setCell (.inr (show w.heap.size ≤ nb by omega)) _).setCell (.inr (show w.heap.size ≤ nb by omega)) _
  try rw [hw6]
  have H6 := Lib.hid (And.intro hE6 hb6)
  obtain ⟨g0, g1, g2⟩ := three' hb6
  clear hw6 hE6 hb6 m0 m1 m2 f0 f1 f2
  obtain ⟨w7, hw7⟩ : ∃ w7, w6.alloc (.cells #[.int .i64 k, .int .i64 a, .int .u64 x] 82) = w7 := ⟨_, rfl⟩
  obtain ⟨pb, hpb⟩ : ∃ pb, w6.heap.size = pb := ⟨_, rfl⟩
  have hE7 : Ext [] w6 w7 := by rw [← hw7]; exact (Ext.refl _ _).alloc _
  have hb7 : w7.heap[pb]? = some (.cells #[.int .i64 k, .int .i64 a, .int .u64 x] 82 (0, 0)) := by rw [← hw7, ← hpb]; exact World.alloc_heap_new _ _
  have HP := Lib.hid (rd_Play d lb sb N D (some ⟨pb, 0, none⟩) 1 [⟨k, a, x⟩] w7 (HN.out _ (H6.out.1.trans hE7)).2 HNN.out.1 (TcAt.one hb7) (by simp) HNN.out.2.1 HNN.out.2.2.1 HNN.out.2.2.2)
  have H7 := Lib.hid (And.intro (H6.out.1.trans hE7) (hE7.at H6.out.2 (by simp)))
  clear hE7 hb7
  obtain ⟨pe, hpe⟩ : ∃ pe, playE D [⟨k, a, x⟩] = pe := ⟨_, rfl⟩
  have HPE := Lib.hid hpe
  rw [hpe] at HP hp
  have hne : (pe != 0) = true := by simpa using hp
  clear hpe hp
  go_wp2_with fail
  try rw [hw7]
  try rw [hpb]
  refine HP.out.mono ?_
  rintro e w8 ⟨rfl, hD8, hE8⟩
  have hnq : nb ∉ [d, lb, sb] := by
    have := HDL.out
    simp
    omega
  have hb8 := hE8.at H7.out.2 hnq
  obtain ⟨m0, m1, m2⟩ := three' hb8
  have f0 := free_of hb8 0
  have f1 := free_of hb8 1
  have f2 := free_of hb8 2
  have H8 := Lib.hid (And.intro hb8 (And.intro hD8 hE8))
  clear hb8 hD8 hE8 hw7 hpb g0 g1 g2 hnq
  go_wp2
  refine bodyPost_ret (results_ca Try.results38 _ _ nb 82 #[.int .i64 0, .int .i64 0, .int .u64 0] (0, 0) _ _ rfl (tri_set H8.out.1 _ _ _) rfl Try.underlying82 rfl (by kernel_rfl)) rfl ?_
  rw [HPE.out]
  have hE9 : Ext [nb] w8 (((w8.setCell ⟨nb, 0, none⟩ (.int .i64 0)).setCell ⟨nb, 1, none⟩ (.int .i64 0)).setCell ⟨nb, 2, none⟩ (.int .u64 0)) := (((Ext.refl [nb] w8).setCell (.inl (by simp)) _).setCell (.inl (by simp)) _).setCell (.inl (by simp)) _
  exact ⟨rfl, H8.out.2.1.extT hE9 H8.out.1, (H7.out.1.wide.trans H8.out.2.2).trans' hE9 (fun q hq => .inr (by simp at hq; omega))⟩
end Go.Proofs.Ytfojmjkcjdehaaa
