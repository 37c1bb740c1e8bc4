/- Package fibre: where a fibre lies; none, head, pop, questions. -/
import Derived.Test.YtfojmjkcjdehaaaRdB
import Derived.Test.YtfojmjkcjdehaaaOrp
namespace Go.Proofs.Ytfojmjkcjdehaaa
open Go Go.RowKit Go.Shelf
attribute [local go_sem] Oper.semAt_some

/-- a fibre lies in block f: what is left, what was done -/
def FibAt (w : World) (N f : Nat) (L dn : List Tch) : Prop := N ≤ f ∧ ∃ lo lc po pc, w.heap[f]? = some (.cells #[.slice lo L.length lc, .slice po dn.length pc, .bool true] 109 (0, 0)) ∧ TcAt w N lo L ∧ TcAt w N po dn ∧ L.length ≤ lc
theorem FibAt.ext {w w' : World} {N f : Nat} {L dn : List Tch} {m : List Nat} (h : FibAt w N f L dn) (hE : Ext m w w') (hf : f ∉ m) (hm : NoTc w N m) : FibAt w' N f L dn := by
  obtain ⟨h0, lo, lc, po, pc, h1, h2, h3, h4⟩ := h
  exact ⟨h0, lo, lc, po, pc, hE.at h1 hf, h2.ext hE hm, h3.ext hE hm, h4⟩
theorem FibAt.ext0 {w w' : World} {N f : Nat} {L dn : List Tch} (h : FibAt w N f L dn) (hE : Ext [] w w') : FibAt w' N f L dn := h.ext hE (by simp) (NoTc.nil _ _)
theorem FibAt.lt {w : World} {N f : Nat} {L dn : List Tch} (h : FibAt w N f L dn) : f < w.heap.size := by
  obtain ⟨_, _, _, _, _, h1, _⟩ := h
  exact lt_of_block h1
theorem FibAt.noTc {w : World} {N f : Nat} {L dn : List Tch} (h : FibAt w N f L dn) : NoTc w N [f] := by
  obtain ⟨h0, lo, lc, po, pc, h1, _⟩ := h
  intro q hq
  simp at hq
  subst hq
  exact .inr ⟨h0, fun cur hb => by rw [h1] at hb; simp at hb⟩
/-- no fibre: nil, or one that was never made -/
def NoneF (w : World) (v : Value) : Prop := v = .pointer none ∨ ∃ c, v = .pointer (some ⟨c, 0, none⟩) ∧ w.heap[c]? = some (.cells #[.slice none 0 0, .slice none 0 0, .bool false] 109 (0, 0))
theorem NoneF.ext {w w' : World} {v : Value} (h : NoneF w v) (hE : Ext [] w w') : NoneF w' v := by
  rcases h with h | ⟨c, h1, h2⟩
  · exact .inl h
  · exact .inr ⟨c, h1, hE.at h2 (by simp)⟩
theorem three' {w : World} {b : Nat} {t : TypeId} {f : Nat × Nat} {v0 v1 v2 : Value} (h : w.heap[b]? = some (.cells #[v0, v1, v2] t f)) :
    w.cell? ⟨b, 0, none⟩ = some v0 ∧ w.cell? ⟨b, 1, none⟩ = some v1 ∧ w.cell? ⟨b, 2, none⟩ = some v2 := ⟨cell_of h rfl, cell_of h rfl, cell_of h rfl⟩

theorem block_set3 {w : World} {g : Nat} {a b c : Value} {t : TypeId} (h : w.heap[g]? = some (.cells #[a, b, c] t (0, 0))) (z : Value) : (w.setCell ⟨g, 0, none⟩ z).heap[g]? = some (.cells #[z, b, c] t (0, 0)) := by
  simp only [World.setCell, Array.getElem?_modify, if_true, h]; rfl
theorem block_set31 {w : World} {g : Nat} {a b c : Value} {t : TypeId} (h : w.heap[g]? = some (.cells #[a, b, c] t (0, 0))) (z : Value) : (w.setCell ⟨g, 1, none⟩ z).heap[g]? = some (.cells #[a, z, c] t (0, 0)) := by
  simp only [World.setCell, Array.getElem?_modify, if_true, h]; rfl
set_option maxHeartbeats 400000 in
theorem fb_none (f N : Nat) (L dn : List Tch) (w : World) (h : FibAt w N f L dn) :
    Calls Try.prog 90 #[.pointer (some ⟨f, 0, none⟩)] w fun e w' => e = .returned (.bool false) ∧ w = w' := by
  obtain ⟨_, lo, lc, po, pc, h1, _⟩ := h
  obtain ⟨k0, k1, k2⟩ := three' h1
  clear h1
  go_enter Try.func90, Try.ntmps90
  go_wp2
  go_ret
  exact ⟨rfl, rfl⟩
set_option maxHeartbeats 400000 in
theorem fb_isnone (v : Value) (w : World) (h : NoneF w v) :
    Calls Try.prog 90 #[v] w fun e w' => e = .returned (.bool true) ∧ w = w' := by
  rcases h with rfl | ⟨c, rfl, h1⟩
  · go_enter Try.func90, Try.ntmps90
    go_wp2
    go_ret
    exact ⟨rfl, rfl⟩
  · obtain ⟨k0, k1, k2⟩ := three' h1
    clear h1
    go_enter Try.func90, Try.ntmps90
    go_wp2
    go_ret
    exact ⟨rfl, rfl⟩

set_option maxHeartbeats 400000 in
theorem fb_Left (f N : Nat) (L dn : List Tch) (w : World) (h : FibAt w N f L dn) :
    Calls Try.prog 39 #[.pointer (some ⟨f, 0, none⟩)] w fun e w' => e = .returned (.int .i64 L.length) ∧ w = w' := by
  have HN := Lib.hid (fb_none f N L dn w h)
  obtain ⟨_, lo, lc, po, pc, h1, _⟩ := h
  obtain ⟨k0, k1, k2⟩ := three' h1
  clear h1
  generalize L.length = n at *
  go_enter Try.func39, Try.ntmps39
  go_wp2_with fail
  refine HN.out.mono ?_
  rintro e w' ⟨rfl, rfl⟩
  go_wp2
  go_ret
  exact ⟨rfl, rfl⟩
set_option maxHeartbeats 400000 in
theorem fb_Left_none (v : Value) (w : World) (h : NoneF w v) :
    Calls Try.prog 39 #[v] w fun e w' => e = .returned (.int .i64 0) ∧ w = w' := by
  have HN := Lib.hid (fb_isnone v w h)
  clear h
  go_enter Try.func39, Try.ntmps39
  go_wp2_with fail
  refine HN.out.mono ?_
  rintro e w' ⟨rfl, rfl⟩
  go_wp2
  go_ret
  exact ⟨rfl, rfl⟩

set_option maxRecDepth 100000 in
set_option maxHeartbeats 400000 in
theorem fb_head (f N : Nat) (t : Tch) (r dn : List Tch) (w : World) (h : FibAt w N f (t :: r) dn) :
    Calls Try.prog 91 #[.pointer (some ⟨f, 0, none⟩)] w fun e w' => e = .returned (.agg #[.int .i64 t.kd, .int .i64 t.at', .int .u64 t.wd]) ∧ Ext [] w w' := by
  obtain ⟨_, lo, lc, po, pc, h1, h2, _⟩ := h
  obtain ⟨b, off, rfl, x0, x1, x2⟩ := h2.cells (i := 0) (by simp)
  rw [Nat.zero_mul, Nat.add_zero] at x0 x1 x2
  rw [show (t :: r).getD 0 tch0 = t from rfl] at x0 x1 x2
  obtain ⟨w0, hw0⟩ : ∃ w0, w.alloc (.cells #[.int .i64 0, .int .i64 0, .int .u64 0] 82) = w0 := ⟨_, rfl⟩
  have hE0 : Ext [] w w0 := by rw [← hw0]; exact (Ext.refl _ _).alloc _
  have hb0 : w0.heap[w.heap.size]? = some (.cells #[.int .i64 0, .int .i64 0, .int .u64 0] 82 (0, 0)) := by rw [← hw0]; exact World.alloc_heap_new _ _
  obtain ⟨k0, k1, k2⟩ := three' (hE0.at h1 (by simp))
  obtain ⟨m0, m1, m2⟩ := three' hb0
  have f0 := free_of hb0 0
  have f1 := free_of hb0 1
  have f2 := free_of hb0 2
  have y0 := hE0.cell x0 (by simp)
  have y1 := hE0.cell x1 (by simp)
  have y2 := hE0.cell x2 (by simp)
  have hlp : (0 : Int) < (((t :: r).length : Nat) : Int) := by rw [List.length_cons]; omega
  have HB := Lib.hid (And.intro hb0 hE0)
  generalize (t :: r).length = n at *
  obtain ⟨k, a, x⟩ := t
  dsimp only at *
  clear h1 h2 x0 x1 x2 hb0 hE0
  go_enter Try.func91, Try.ntmps91
  go_wp2
  refine bodyPost_ret (results_agg Try.results91 _ _ w.heap.size 82 #[.int .i64 k, .int .i64 a, .int .u64 x] (0, 0) _ rfl (tri_set HB.out.1 _ _ _) Try.underlying82 rfl (by kernel_rfl)) rfl ?_
  exact ⟨rfl, ((HB.out.2.setCell (.inr (Nat.le_refl _)) _).setCell (.inr (Nat.le_refl _)) _).setCell (.inr (Nat.le_refl _)) _⟩

theorem TcAt.pop {w : World} {N : Nat} {ao : Option Addr} {t : Tch} {r : List Tch} {b off : Nat} (h : TcAt w N ao (t :: r)) (ha : ao = some ⟨b, off, none⟩) : TcAt w N (if r.length + 1 = 1 then some ⟨b, off, none⟩ else some ⟨b, off + 3, none⟩) r := by
  subst ha
  rcases h.1 with h0 | ⟨b', off', h1, h2⟩
  · cases h0
  cases h1
  rcases h.2 with h0 | h3
  · cases h0
  by_cases hr : r.length + 1 = 1
  · rw [if_pos hr]
    exact ⟨.inl (by omega), .inl (by omega)⟩
  · rw [if_neg hr]
    refine ⟨.inr ⟨b, off + 3, rfl, fun i hi j hj => ?_⟩, .inr fun p hp => by cases hp; exact h3 (⟨b, off, none⟩ : Addr) rfl⟩
    have := h2 (i + 1) (by simpa using hi) j hj
    rw [show off + 3 + (i * 3 + j) = off + ((i + 1) * 3 + j) from by omega]
    exact this
theorem run_slice_pop (w : World) (b off n cap : Nat) (hn : n + 1 ≤ cap) :
    (Instr.slice 75 (.slice (some ⟨b, off, none⟩) (n + 1) cap) (some (.int .i64 1)) (some (.int .i64 ((n + 1 : Nat) : Int))) (some (.int .i64 ((n + 1 : Nat) : Int)))).run Try.prog w = .ok (.slice (if n + 1 = 1 then some ⟨b, off, none⟩ else some ⟨b, off + 3, none⟩) n n) w := by
  rw [run_slice_lhm (P := Try.prog) (w := w) (t := 75) (a := some ⟨b, off, none⟩) (len := n + 1) (cap := cap) (by kernel_rfl) .i64 .i64 .i64 1 ((n + 1 : Nat) : Int) ((n + 1 : Nat) : Int) (by omega) (by omega) (by omega) (by omega), show (sizeOf (Try.prog.elem 75)).run Try.prog w = .ok 3 w from by kernel_rfl]
  simp only [Result.andThen, sliced, Int.toNat_natCast, Option.map_some, add_off]
  rw [show (1 : Int).toNat = 1 from rfl, Nat.one_mul, show n + 1 - 1 = n from by omega]

theorem run_slice_pop' (w : World) (b off n cap : Nat) (hn : n + 1 ≤ cap) :
    (Instr.slice 75 (.slice (some ⟨b, off, none⟩) (n + 1) cap) (some (.int .i64 1)) (some (.int .i64 ((n : Int) + 1))) (some (.int .i64 ((n : Int) + 1)))).run Try.prog w = .ok (.slice (if n + 1 = 1 then some ⟨b, off, none⟩ else some ⟨b, off + 3, none⟩) n n) w :=
  run_slice_pop w b off n cap hn
set_option maxRecDepth 100000 in
set_option maxHeartbeats 800000 in
theorem fb_pop (f N : Nat) (t : Tch) (r dn : List Tch) (w : World) (h : FibAt w N f (t :: r) dn) :
    Calls Try.prog 92 #[.pointer (some ⟨f, 0, none⟩)] w fun e w' => e = .returned (.tuple #[]) ∧ FibAt w' N f r dn ∧ Ext [f] w w' := by
  obtain ⟨hN, lo, lc, po, pc, h1, h2, h3, h4⟩ := h
  obtain ⟨b, off, rfl, _⟩ := h2.cells (i := 0) (by simp)
  have hrt := h2.pop rfl
  rw [List.length_cons] at h1 h4
  obtain ⟨k0, k1, k2⟩ := three' h1
  have f0 := free_of h1 0
  have hsl := fun w => run_slice_pop' w b off r.length lc h4
  obtain ⟨lo', hlo⟩ : ∃ lo', (if r.length + 1 = 1 then some (⟨b, off, none⟩ : Addr) else some ⟨b, off + 3, none⟩) = lo' := ⟨_, rfl⟩
  rw [hlo] at hrt
  simp only [hlo] at hsl
  have HB := Lib.hid (And.intro hN (And.intro h1 (And.intro hrt h3)))
  obtain ⟨n, hn⟩ : ∃ n, r.length = n := ⟨_, rfl⟩
  have HNN := Lib.hid hn
  rw [hn] at HB k0 hsl
  clear h1 h2 h3 h4 hlo hrt hN hn
  go_enter Try.func92, Try.ntmps92
  go_wp2
  refine wp_region_p (hds [0, 1, 2, 3, 4, 5, 6, 7, 8, 9, 10, 11, 12, 13, 14, 15] (tls [16, 17, 18] .done)) (Ext [] w) (by kernel_rfl) (by kernel_rfl) (fun _ d _ _ _ h => by cases d <;> exact h) (Ext.refl _ _).drew ?_
  repeat (first
    | (refine wpPl_hd ?_ rfl (by rfl) (fun w hSw => ?_) ?_
       rotate_left
       · (have q0 := hSw.cell k0 (by simp); clear hSw; go_simp; first | exact ⟨rfl, rfl⟩ | exact rfl)
       simp only [Act.put, List.setIfInBounds_toArray, List.set_cons_zero, List.set_cons_succ]))
  refine wpPl_tl rfl (by rfl) (fun K hK => ?_)
  go_simp
  refine hK _ _ (fun _ => (Ext.refl _ _).drew) ?_
  clear hK K
  try simp only [Act.put, List.setIfInBounds_toArray, List.set_cons_zero, List.set_cons_succ]
  refine wpPl_tl rfl (by rfl) (fun K hK => ?_)
  go_simp
  refine hK _ _ (fun _ => (Ext.refl _ _).drew) ?_
  clear hK K
  try simp only [Act.put, List.setIfInBounds_toArray, List.set_cons_zero, List.set_cons_succ]
  refine wpPl_last rfl (by rfl) ?_
  go_simp
  go_end0
  have hE : Ext [f] w (w.setCell ⟨f, 0, none⟩ (.slice lo' n n)).drew := ((Ext.refl [f] w).setCell (.inl (by simp)) _).drew
  have hno : NoTc w N [f] := fun q hq => by
    simp at hq
    subst hq
    exact .inr ⟨HB.out.1, fun cur hb => by rw [HB.out.2.1] at hb; simp at hb⟩
  refine ⟨rfl, ⟨HB.out.1, lo', n, po, pc, ?_, HB.out.2.2.1.ext hE hno, HB.out.2.2.2.ext hE hno, by rw [HNN.out]; exact Nat.le_refl _⟩, hE⟩
  rw [HNN.out]
  exact block_set3 HB.out.2.1 _

set_option maxHeartbeats 400000 in
theorem fb_clone (N : Nat) (ao : Option Addr) (cap : Nat) (L : List Tch) (w : World) (h : TcAt w N ao L) (h1 : L.length ≤ 1000000) :
    Calls Try.prog 86 #[.slice ao L.length cap] w fun e w' => ∃ v', e = .returned v' ∧ Ext [] w w' ∧ TcOwn w' w.heap.size v' L := by
  have HC := Lib.hid (tc_clone N ao cap L w h h1)
  clear h h1
  go_enter Try.func86, Try.ntmps86
  go_wp2_with fail
  refine HC.out.mono ?_
  rintro e w' ⟨v', rfl, hE, ho⟩
  have HF := Lib.hid (And.intro hE ho)
  clear hE ho
  go_wp2
  go_ret
  exact ⟨_, rfl, HF.out.1, HF.out.2⟩

/-- a question's own: is it wrong, and its error -/
def Unl (w : World) (b1 b2 : Nat) (c : Bool) (er : Int) : Prop := w.heap[b1]? = some (.cells #[.bool c] 4 (0, 0)) ∧ w.heap[b2]? = some (.cells #[.int .i64 er] 27 (0, 0))
theorem Unl.ext0 {w w' : World} {b1 b2 : Nat} {c : Bool} {er : Int} (h : Unl w b1 b2 c er) (hE : Ext [] w w') : Unl w' b1 b2 c er := ⟨hE.at h.1 (by simp), hE.at h.2 (by simp)⟩
set_option maxHeartbeats 400000 in
theorem fb_unless (c : Bool) (er : Int) (w : World) :
    Calls Try.prog 89 #[.bool c, .int .i64 er] w fun e w' => e = .returned (.func (.func 120) #[] #[.pointer (some ⟨w.heap.size, 0, none⟩), .pointer (some ⟨w.heap.size + 1, 0, none⟩)]) ∧ Ext [] w w' ∧ Unl w' w.heap.size (w.heap.size + 1) c er := by
  go_enter Try.func89, Try.ntmps89
  go_wp2
  go_ret
  exact ⟨rfl, ((Ext.refl _ _).alloc _).alloc _, (al2_heap _ _ _ _).1, (al2_heap _ _ _ _).2.1⟩
set_option maxHeartbeats 400000 in
theorem fb_unless1 (b1 b2 : Nat) (c : Bool) (er : Int) (w : World) (h : Unl w b1 b2 c er) :
    Calls Try.prog 120 #[.pointer (some ⟨b1, 0, none⟩), .pointer (some ⟨b2, 0, none⟩)] w fun e w' => e = .returned (.int .i64 (if c = true then er else 0)) ∧ w = w' := by
  have k1 := cell_of (j := 0) (v := .bool c) h.1 rfl
  have k2 := cell_of (j := 0) (v := .int .i64 er) h.2 rfl
  clear h
  cases c with
  | true =>
    go_enter Try.func120, Try.ntmps120
    go_wp2
    go_ret
    exact ⟨rfl, rfl⟩
  | false =>
    go_enter Try.func120, Try.ntmps120
    go_wp2
    go_ret
    exact ⟨rfl, rfl⟩

/-- the first error of two questions -/
def ask2 (a b : Int) : Int := if a = 0 then b else a
set_option maxRecDepth 100000 in
set_option maxHeartbeats 1000000 in
theorem fb_asked2 (b K0 K1 : Nat) (lb0 lb1 : Array Value) (r0 r1 : Int) (w : World) (f0 : Nat × Nat) (t0 : TypeId) (hb : w.heap[b]? = some (.cells #[.func (.func K0) #[] lb0, .func (.func K1) #[] lb1] t0 f0))
    (hc0 : ∀ w', (callFunc K0 lb0).run Try.prog w' = .ok (.enter K0 lb0) w') (hc1 : ∀ w', (callFunc K1 lb1).run Try.prog w' = .ok (.enter K1 lb1) w')
    (h0 : ∀ W, Ext [] w W → Calls Try.prog K0 lb0 W fun e w' => e = .returned (.int .i64 r0) ∧ Ext [] W w') (h1 : ∀ W, Ext [] w W → Calls Try.prog K1 lb1 W fun e w' => e = .returned (.int .i64 r1) ∧ Ext [] W w') :
    Calls Try.prog 88 #[.slice (some ⟨b, 0, none⟩) 2 2] w fun e w' => e = .returned (.int .i64 (ask2 r0 r1)) ∧ Ext [] w w' := by
  have HB := Lib.hid hb
  have H0 := Lib.hid h0
  have H1 := Lib.hid h1
  have k0 := cell_of (j := 0) (v := .func (.func K0) #[] lb0) hb rfl
  have k1 := cell_of (j := 1) (v := .func (.func K1) #[] lb1) hb rfl
  clear hb h0 h1
  unfold ask2
  by_cases e0 : r0 = 0
  · subst e0
    rw [if_pos rfl]
    by_cases e1 : r1 = 0
    · subst e1
      go_enter Try.func88, Try.ntmps88
      go_wp2_with fail
      refine wp_scope_ahead 0 rfl ?_
      go_wp2_with fail
      refine wp_loop_rounds 3 ?_
      rw [rounds_succ]
      go_wp2_with fail
      refine (H0.out _ (Ext.refl _ _)).mono ?_
      rintro e w1 ⟨rfl, hE1⟩
      have q1 := hE1.cell k1 (by simp)
      have HE1 := Lib.hid hE1
      clear hE1 k0 k1
      go_wp2_with fail
      rw [rounds_succ]
      go_wp2_with fail
      refine (H1.out _ HE1.out).mono ?_
      rintro e w2 ⟨rfl, hE2⟩
      have HE2 := Lib.hid (HE1.out.trans hE2)
      clear hE2 q1
      go_wp2_with fail
      rw [rounds_succ]
      go_wp2
      simp only [Exit.jump]
      go_ret
      exact ⟨rfl, HE2.out⟩
    · have g1 : (r1 != 0) = true := by simpa using e1
      clear e1
      go_enter Try.func88, Try.ntmps88
      go_wp2_with fail
      refine wp_scope_ahead 0 rfl ?_
      go_wp2_with fail
      refine wp_loop_rounds 3 ?_
      rw [rounds_succ]
      go_wp2_with fail
      refine (H0.out _ (Ext.refl _ _)).mono ?_
      rintro e w1 ⟨rfl, hE1⟩
      have q1 := hE1.cell k1 (by simp)
      have HE1 := Lib.hid hE1
      clear hE1 k0 k1
      go_wp2_with fail
      rw [rounds_succ]
      go_wp2_with fail
      refine (H1.out _ HE1.out).mono ?_
      rintro e w2 ⟨rfl, hE2⟩
      have HE2 := Lib.hid (HE1.out.trans hE2)
      clear hE2 q1
      go_wp2
      go_step3
      simp only [Exit.inBlock, Exit.then]
      refine ⟨rfl, ?_⟩
      go_wp2
      rw [Exit.noGoto_ret]
      go_ret
      exact ⟨rfl, HE2.out⟩
  · rw [if_neg e0]
    have g0 : (r0 != 0) = true := by simpa using e0
    clear e0 k1
    go_enter Try.func88, Try.ntmps88
    go_wp2_with fail
    refine wp_scope_ahead 0 rfl ?_
    go_wp2_with fail
    refine wp_loop_rounds 3 ?_
    rw [rounds_succ]
    go_wp2_with fail
    refine (H0.out _ (Ext.refl _ _)).mono ?_
    rintro e w1 ⟨rfl, hE1⟩
    have HE1 := Lib.hid hE1
    clear hE1 k0
    go_wp2
    go_step3
    simp only [Exit.inBlock, Exit.then]
    refine ⟨rfl, ?_⟩
    go_wp2
    rw [Exit.noGoto_ret]
    go_ret
    exact ⟨rfl, HE1.out⟩
end Go.Proofs.Ytfojmjkcjdehaaa
