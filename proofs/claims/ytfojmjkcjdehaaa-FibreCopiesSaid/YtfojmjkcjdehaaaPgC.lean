/- Package pmem: Fence, Crash. Package pmem: Crash. Package pmem: New, Copy. Package pmem: whether lines, and what waits, are the same. Package pmem: whether things that wait are the same. Package pmem: whether lists of what waits are the same. -/
import Derived.Test.YtfojmjkcjdehaaaPgA
import Derived.Test.YtfojmjkcjdehaaaPgB
import Derived.RegionTactic
import Derived.Laws.MakeOwn
namespace Go.Proofs.Ytfojmjkcjdehaaa
open Go Go.RowKit Go.Shelf
attribute [local go_sem] Oper.semAt_some

/-- truths lie there -/
def BoolsAt (w : World) (ao : Option Addr) (n : Nat) (M : Nat → Bool) : Prop := n = 0 ∨ ∃ b off, ao = some ⟨b, off, none⟩ ∧ ∀ i, i < n → w.cell? ⟨b, off + i, none⟩ = some (.bool (M i))
theorem BoolsAt.ext {w w' : World} {ao : Option Addr} {n : Nat} {M : Nat → Bool} (h : BoolsAt w ao n M) (hE : Ext [] w w') : BoolsAt w' ao n M := by
  rcases h with h | ⟨b, off, h1, h2⟩
  · exact .inl h
  · exact .inr ⟨b, off, h1, fun i hi => hE.cell (h2 i hi) (by simp)⟩
def markS (n : Nat) (M : Nat → Bool) : Nat → Bool := fun i => decide (i < n) && M i

theorem pm_fence2 (i : Int) (w : World) : Calls Try.prog 74 #[.int .i64 i] w fun e w' => e = .returned (.bool true) ∧ Ext [] w w' := by
  go_enter Try.func74, Try.ntmps74
  go_wp2
  go_ret
  exact ⟨rfl, Ext.refl _ _⟩
set_option maxHeartbeats 400000 in
theorem pm_fence1 (b1 d lb sb : Nat) (D : Dv) (w : World) (hD : DevAt w d lb sb D) (hn : DvOk D) (hb : w.heap[b1]? = some (.cells #[.pointer (some ⟨d, 0, none⟩)] 26 (0, 0))) :
    Calls Try.prog 72 #[.pointer (some ⟨b1, 0, none⟩)] w fun e w' => e = .returned (.int .i64 0) ∧ DevPost [d, sb] w d lb sb D.fence w' := by
  have k1 := cell_of (j := 0) (v := .pointer (some ⟨d, 0, none⟩)) hb rfl
  have HS := Lib.hid (pm_settle 74 #[] (fun _ => true) d lb sb D w hD hn (fun args w' => enters_of Try.func74 (by kernel_rfl) rfl args w') (fun W _ i _ => pm_fence2 i W))
  clear hD hn hb
  go_enter Try.func72, Try.ntmps72
  go_wp2_with fail
  refine HS.out.mono ?_
  rintro e w1 ⟨rfl, hP⟩
  have HP := Lib.hid hP
  clear hP
  go_wp2
  go_ret
  exact ⟨rfl, HP.out⟩
set_option maxRecDepth 100000 in
set_option maxHeartbeats 800000 in
theorem pm_Fence_in (d lb sb : Nat) (D : Dv) (w : World) (hD : DevAt w d lb sb D) (hn : DvOk D) :
    Calls Try.prog 23 #[.pointer (some ⟨d, 0, none⟩)] w fun e w' => e = .returned (.int .i64 0) ∧ DevPost [d, sb] w d lb sb D.fence w' := by
  obtain ⟨W0, hw0⟩ : ∃ W0, w.alloc (.cells #[.pointer (some ⟨d, 0, none⟩)] 26) = W0 := ⟨_, rfl⟩
  have hE0 : Ext [] w W0 := by rw [← hw0]; exact (Ext.refl _ _).alloc _
  have hb0 : W0.heap[w.heap.size]? = some (.cells #[.pointer (some ⟨d, 0, none⟩)] 26 (0, 0)) := by rw [← hw0]; exact World.alloc_heap_new _ _
  have k0 := cell_of (j := 0) (v := .pointer (some ⟨d, 0, none⟩)) hb0 rfl
  have HN := Lib.hid (fun W (hE : Ext [] W0 W) => pm_none d lb sb D W ((hD.ext0 hE0).ext0 hE))
  have HT := Lib.hid (fun W (hE : Ext [] W0 W) => pm_fence1 w.heap.size d lb sb D W ((hD.ext0 hE0).ext0 hE) hn (hE.at hb0 (by simp)))
  have HE := Lib.hid hE0
  clear hD hn hE0 hb0
  go_enter Try.func23, Try.ntmps23
  go_wp2_with fail
  refine (pm_is _ _).mono ?_
  rintro e w1 ⟨rfl, hE1⟩
  have H1 := Lib.hid hE1
  clear hE1 hw0 k0
  go_wp2_with fail
  refine (asked1_int_ok 72 #[.pointer (some ⟨w.heap.size, 0, none⟩)] _ _ _ (0, 0) (World.alloc_heap_new _ _) (fun W hE => HN.out W ((H1.out.alloc _).trans hE)) (enters_of Try.func72 (by kernel_rfl) rfl _)
    (fun W x w' => x = .int .i64 0 ∧ DevPost [d, sb] W d lb sb D.fence w') (fun W hE => (HT.out W ((H1.out.alloc _).trans hE)).mono fun _ _ h => ⟨_, h.1, rfl, h.2⟩)).mono ?_
  rintro e w2 ⟨x, W2, rfl, hE2, rfl, hP⟩
  have HP := Lib.hid (And.intro hE2 hP)
  clear hE2 hP
  go_wp2
  go_ret
  exact ⟨rfl, HP.out.2.1, (((HE.out.trans H1.out).alloc _).trans HP.out.1).wide.trans HP.out.2.2⟩
set_option maxRecDepth 100000 in
set_option maxHeartbeats 800000 in
theorem pm_Fence_none (bo : Option Addr) (w : World) (hD : NoneD w (.pointer bo)) :
    Calls Try.prog 23 #[.pointer bo] w fun e w' => e = .returned (.int .i64 1) ∧ Ext [] w w' := by
  obtain ⟨W0, hw0⟩ : ∃ W0, w.alloc (.cells #[.pointer bo] 26) = W0 := ⟨_, rfl⟩
  have hE0 : Ext [] w W0 := by rw [← hw0]; exact (Ext.refl _ _).alloc _
  have hb0 : W0.heap[w.heap.size]? = some (.cells #[.pointer bo] 26 (0, 0)) := by rw [← hw0]; exact World.alloc_heap_new _ _
  have k0 := cell_of (j := 0) (v := .pointer bo) hb0 rfl
  have HN := Lib.hid (fun W (hE : Ext [] W0 W) => pm_isnone _ W ((hD.ext hE0).ext hE))
  have HE := Lib.hid hE0
  clear hD hE0 hb0
  go_enter Try.func23, Try.ntmps23
  go_wp2_with fail
  refine (pm_is _ _).mono ?_
  rintro e w1 ⟨rfl, hE1⟩
  have H1 := Lib.hid hE1
  clear hE1 hw0 k0
  go_wp2_with fail
  refine (asked1_int_nil 72 #[.pointer (some ⟨w.heap.size, 0, none⟩)] _ _ _ (0, 0) (World.alloc_heap_new _ _) (fun W hE => HN.out W ((H1.out.alloc _).trans hE))).mono ?_
  rintro e w2 ⟨rfl, hE2⟩
  have HP := Lib.hid hE2
  clear hE2
  go_wp2
  go_ret
  exact ⟨rfl, ((HE.out.trans H1.out).alloc _).trans HP.out⟩
end Go.Proofs.Ytfojmjkcjdehaaa
namespace Go.Proofs.Ytfojmjkcjdehaaa
open Go Go.RowKit Go.Shelf
attribute [local go_sem] Oper.semAt_some

set_option maxRecDepth 100000 in
set_option maxHeartbeats 400000 in
theorem pm_crash2 (i b2 : Nat) (mo : Option Addr) (mn mcap : Nat) (M : Nat → Bool) (w : World) (hb : w.heap[b2]? = some (.cells #[.slice mo mn mcap] 37 (0, 0))) (hM : BoolsAt w mo mn M) (hi : i ≤ 1024) (_hmn : mn ≤ 9223372036854775807) :
    Calls Try.prog 76 #[.int .i64 ((i : Nat) : Int), .pointer (some ⟨b2, 0, none⟩)] w fun e w' => e = .returned (.bool (markS mn M i)) ∧ Ext [] w w' := by
  have k1 := cell_of (j := 0) (v := .slice mo mn mcap) hb rfl
  unfold markS
  by_cases h : i < mn
  · have hd : decide (i < mn) = true := by simpa using h
    rw [hd, Bool.true_and]
    obtain ⟨b, off, rfl, k2⟩ : ∃ b off, mo = some ⟨b, off, none⟩ ∧ w.cell? ⟨b, off + i, none⟩ = some (.bool (M i)) := by
      rcases hM with h0 | ⟨b, off, h1, h2⟩
      · omega
      · exact ⟨b, off, h1, h2 i h⟩
    have h0 : (0 : Int) ≤ (i : Int) := by omega
    have h1 : (i : Int) < (mn : Int) := by omega
    clear hb hM hi _hmn h
    generalize M i = r at *
    go_enter Try.func76, Try.ntmps76
    go_wp2
    go_ret
    exact ⟨rfl, Ext.refl _ _⟩
  · have hd : decide (i < mn) = false := by simpa using h
    rw [hd, Bool.false_and]
    clear hb hM hi _hmn h
    go_enter Try.func76, Try.ntmps76
    go_wp2
    go_ret
    exact ⟨rfl, Ext.refl _ _⟩

/-- what is seen lies somewhere else -/
theorem DevAt.seen {w : World} {d lb sb lb' : Nat} {D : Dv} (h : DevAt w d lb sb D) {F : Wd} (hl : LinesB w lb' D.n F) (hne : lb' ≠ sb) (cap : Nat) : DevAt (w.setCell ⟨d, 0, none⟩ (.slice (some ⟨lb', 0, none⟩) D.n cap)) d lb' sb { D with L := F } := by
  have hn := h.ne
  have hnw := h.noW
  have hE : Ext [d] w (w.setCell ⟨d, 0, none⟩ (.slice (some ⟨lb', 0, none⟩) D.n cap)) := (Ext.refl [d] w).setCell (.inl (by simp)) _
  obtain ⟨⟨cl, cs, wv, h1, h5⟩, h2, h3, h4⟩ := h
  have hld : lb' ≠ d := by
    rintro rfl
    obtain ⟨cur, hc, _⟩ := hl
    rw [h1] at hc
    simp at hc
  refine ⟨⟨cap, cs, wv, ?_, h5.ext hE (fun g cur hg hm => hnw g cur hg (by simp at hm; simp [hm]))⟩, hl.ext hE (by simpa using hld), h3.ext hE (by simp [Ne.symm hn.2.1]), hne⟩
  simp only [World.setCell, Array.getElem?_modify, if_true, h1]; rfl
theorem cell_setO' {w : World} {p q : Addr} {v u : Value} (h : w.cell? p = some v) (hne : q ≠ p) : (w.setCell q u).cell? p = some v := by
  rw [World.cell?_setCell_other w _ _ _ hne]
  exact h
def CrashPost (w : World) (d sb : Nat) (D' : Dv) (w' : World) : Prop := ∃ lb', DevAt w' d lb' sb D' ∧ Ext [d, sb] w w' ∧ w.heap.size ≤ lb'
set_option maxRecDepth 100000 in
set_option maxHeartbeats 1600000 in
theorem pm_crash1 (b1 b2 d lb sb : Nat) (mo : Option Addr) (mn mcap : Nat) (M : Nat → Bool) (D : Dv) (w : World) (hD : DevAt w d lb sb D) (hn : DvOk D) (hb : w.heap[b1]? = some (.cells #[.pointer (some ⟨d, 0, none⟩)] 26 (0, 0)))
    (hb2 : w.heap[b2]? = some (.cells #[.slice mo mn mcap] 37 (0, 0))) (hM : ∀ W, Ext [d, sb] w W → BoolsAt W mo mn M) (hmn : mn ≤ 9223372036854775807) :
    Calls Try.prog 75 #[.pointer (some ⟨b1, 0, none⟩), .pointer (some ⟨b2, 0, none⟩)] w fun e w' => e = .returned (.int .i64 0) ∧ CrashPost w d sb (D.crash (markS mn M)) w' := by
  have k1 := cell_of (j := 0) (v := .pointer (some ⟨d, 0, none⟩)) hb rfl
  have hbs : b2 ≠ sb := by rintro rfl; obtain ⟨cur, hc, _⟩ := hD.2.2.1; rw [hc] at hb2; simp at hb2
  have hb1s : b1 ≠ sb := by rintro rfl; obtain ⟨cur, hc, _⟩ := hD.2.2.1; rw [hc] at hb; simp at hb
  have hb1d : b1 ≠ d := by rintro rfl; obtain ⟨cl, cs, wv, h1, _⟩ := hD.1; rw [h1] at hb; simp at hb
  have hl := hn.len
  have hn1 := hn.n1
  have HS := Lib.hid (pm_settle 76 #[.pointer (some ⟨b2, 0, none⟩)] (markS mn M) d lb sb D w hD hn (fun args w' => enters_of Try.func76 (by kernel_rfl) rfl args w')
    (fun W hE i hi => pm_crash2 i b2 mo mn mcap M W (hE.at hb2 (by simpa using hbs)) (hM W (hE.sub (fun j hj => by simp at hj; simp [hj]))) (by omega) hmn))
  have HD := Lib.hid (And.intro hD hn)
  have HB := Lib.hid (And.intro hb1s hb1d)
  clear hD hn hb hb2 hM hbs hl hn1 hb1s hb1d
  go_enter Try.func75, Try.ntmps75
  go_wp2_with fail
  refine HS.out.mono ?_
  rintro e w1 ⟨rfl, hD1, hE1⟩
  have q1 := hE1.cell k1 (by have := HB.out; simp; exact ⟨this.2, this.1⟩)
  obtain ⟨cl, cs, wv, h1, _⟩ := hD1.1
  have q2 := cell_of (j := 1) (v := .slice (some ⟨sb, 0, none⟩) D.n cs) h1 rfl
  have q0 := cell_of (j := 0) (v := .slice (some ⟨lb, 0, none⟩) D.n cl) h1 rfl
  have f0 := free_of h1 0
  have hdl : d < w1.heap.size := lt_of_block h1
  have HC := Lib.hid (fun W (hE : Ext [] w1 W) => pm_cloneL sb D.n cs (D.settle (markS mn M)).S W (hD1.2.2.1.ext hE (by simp)) HD.out.2.n0 HD.out.2.n1)
  have H1 := Lib.hid (And.intro hD1 hE1)
  clear hD1 hE1 h1 k1
  go_wp2
  go_region_held3 (fun w' => w'.cell? ⟨b1, 0, none⟩ = some (.pointer (some ⟨d, 0, none⟩)) ∧ w'.cell? ⟨d, 1, none⟩ = some (.slice (some ⟨sb, 0, none⟩) D.n cs))
    (first
      | exact ⟨q1, q2⟩
      | exact ⟨(Ext.refl [] w1).drew.cell q1 (by simp), (Ext.refl [] w1).drew.cell q2 (by simp)⟩
      | exact ⟨hX2.cell q1 (by simp), hX2.cell q2 (by simp)⟩
      | exact ⟨cell_setO' (hX2.cell q1 (by simp)) (by have := HB.out.2; first | (simp; done) | (simp [Ne.symm this]; done) | (simp; omega)), cell_setO' (hX2.cell q2 (by simp)) (by simp)⟩)
    ((first
      | (go_at_call 59; refine (HC.out _ (Ext.refl [] w1).drew).mono ?_; rintro e w2 ⟨lb2, cap2, rfl, hE2, hl2, hb2⟩; have hX2 : Ext [] w1 w2 := (Ext.refl [] w1).drew.trans hE2; have HL := Lib.hid (And.intro hl2 hb2); have p0 := hX2.cell q0 (by simp); have g0 := hX2.frozen f0 hdl (by simp); clear hl2 hb2)
      | fail))
  go_wp2
  go_ret
  have hlt := H1.out.1.lt
  have hs1 := H1.out.2.size
  have hlb : w1.heap.size ≤ lb2 := HL.out.2
  refine ⟨rfl, lb2, ?_, (H1.out.2.then hX2).setCell (.inl (by simp)) _, by omega⟩
  exact (H1.out.1.ext0 hX2).seen HL.out.1 (by omega) cap2
set_option maxRecDepth 100000 in
set_option maxHeartbeats 800000 in
theorem pm_Crash_in (d lb sb : Nat) (mo : Option Addr) (mn mcap : Nat) (M : Nat → Bool) (D : Dv) (w : World) (hD : DevAt w d lb sb D) (hn : DvOk D) (hM : ∀ W, Ext [d, sb] w W → BoolsAt W mo mn M) (hmn : mn ≤ 9223372036854775807) :
    Calls Try.prog 25 #[.pointer (some ⟨d, 0, none⟩), .slice mo mn mcap] w fun e w' => e = .returned (.int .i64 0) ∧ CrashPost w d sb (D.crash (markS mn M)) w' := by
  obtain ⟨W0, hw0⟩ : ∃ W0, (w.alloc (.cells #[.pointer (some ⟨d, 0, none⟩)] 26)).alloc (.cells #[.slice mo mn mcap] 37) = W0 := ⟨_, rfl⟩
  have hE0 : Ext [] w W0 := by rw [← hw0]; exact ((Ext.refl _ _).alloc _).alloc _
  obtain ⟨hb0, hb1, hs0⟩ := al2_heap (w := w) #[.pointer (some ⟨d, 0, none⟩)] #[.slice mo mn mcap] 26 37
  rw [hw0] at hb0 hb1 hs0
  have k0 := cell_of (j := 0) (v := .pointer (some ⟨d, 0, none⟩)) hb0 rfl
  have HN := Lib.hid (fun W (hE : Ext [] W0 W) => pm_none d lb sb D W ((hD.ext0 hE0).ext0 hE))
  have HT := Lib.hid (fun W (hE : Ext [] W0 W) => pm_crash1 w.heap.size (w.heap.size + 1) d lb sb mo mn mcap M D W ((hD.ext0 hE0).ext0 hE) hn (hE.at hb0 (by simp)) (hE.at hb1 (by simp)) (fun W' hE' => hM W' ((hE0.trans hE).wide.trans hE')) hmn)
  have HE := Lib.hid hE0
  clear hD hn hE0 hb0 hb1 hs0 hM hmn
  go_enter Try.func25, Try.ntmps25
  go_wp2_with fail
  refine (pm_is _ _).mono ?_
  rintro e w1 ⟨rfl, hE1⟩
  have H1 := Lib.hid hE1
  clear hE1 hw0 k0
  go_wp2_with fail
  refine (asked1_int_ok 75 #[.pointer (some ⟨w.heap.size, 0, none⟩), .pointer (some ⟨w.heap.size + 1, 0, none⟩)] _ _ _ (0, 0) (World.alloc_heap_new _ _) (fun W hE => HN.out W ((H1.out.alloc _).trans hE)) (enters_of Try.func75 (by kernel_rfl) rfl _)
    (fun W x w' => x = .int .i64 0 ∧ CrashPost W d sb (D.crash (markS mn M)) w') (fun W hE => (HT.out W ((H1.out.alloc _).trans hE)).mono fun _ _ h => ⟨_, h.1, rfl, h.2⟩)).mono ?_
  rintro e w2 ⟨x, W2, rfl, hE2, rfl, hP⟩
  have HP := Lib.hid (And.intro hE2 hP)
  clear hE2 hP
  go_wp2
  go_ret
  obtain ⟨lb', h1, h2, h3⟩ := HP.out.2
  have hX := ((HE.out.trans H1.out).alloc (.cells #[.func (.func 58) #[.pointer (some ⟨d, 0, none⟩)] #[], .int .i64 1] 131)).trans HP.out.1
  exact ⟨rfl, lb', h1, hX.wide.trans h2, Nat.le_trans hX.size h3⟩
set_option maxRecDepth 100000 in
set_option maxHeartbeats 800000 in
theorem pm_Crash_none (bo mo : Option Addr) (mn mcap : Nat) (w : World) (hD : NoneD w (.pointer bo)) :
    Calls Try.prog 25 #[.pointer bo, .slice mo mn mcap] w fun e w' => e = .returned (.int .i64 1) ∧ Ext [] w w' := by
  obtain ⟨W0, hw0⟩ : ∃ W0, (w.alloc (.cells #[.pointer bo] 26)).alloc (.cells #[.slice mo mn mcap] 37) = W0 := ⟨_, rfl⟩
  have hE0 : Ext [] w W0 := by rw [← hw0]; exact ((Ext.refl _ _).alloc _).alloc _
  obtain ⟨hb0, hb1, hs0⟩ := al2_heap (w := w) #[.pointer bo] #[.slice mo mn mcap] 26 37
  rw [hw0] at hb0 hb1 hs0
  have k0 := cell_of (j := 0) (v := .pointer bo) hb0 rfl
  have HN := Lib.hid (fun W (hE : Ext [] W0 W) => pm_isnone _ W ((hD.ext hE0).ext hE))
  have HE := Lib.hid hE0
  clear hD hE0 hb0 hb1 hs0
  go_enter Try.func25, Try.ntmps25
  go_wp2_with fail
  refine (pm_is _ _).mono ?_
  rintro e w1 ⟨rfl, hE1⟩
  have H1 := Lib.hid hE1
  clear hE1 hw0 k0
  go_wp2_with fail
  refine (asked1_int_nil 75 #[.pointer (some ⟨w.heap.size, 0, none⟩), .pointer (some ⟨w.heap.size + 1, 0, none⟩)] _ _ _ (0, 0) (World.alloc_heap_new _ _) (fun W hE => HN.out W ((H1.out.alloc _).trans hE))).mono ?_
  rintro e w2 ⟨rfl, hE2⟩
  have HP := Lib.hid hE2
  clear hE2
  go_wp2
  go_ret
  exact ⟨rfl, ((HE.out.trans H1.out).alloc _).trans HP.out⟩
end Go.Proofs.Ytfojmjkcjdehaaa
namespace Go.Proofs.Ytfojmjkcjdehaaa
open Go Go.RowKit Go.Shelf
attribute [local go_sem] Oper.semAt_some

theorem made_words (n i : Nat) (h : i < n) : (madeCells (#[.int .u64 0, .int .u64 0, .int .u64 0, .int .u64 0, .int .u64 0, .int .u64 0, .int .u64 0, .int .u64 0] : Array Value) n)[i]? = some (.int .u64 0) := by
  have hm : i % 8 < 8 := Nat.mod_lt _ (by omega)
  simp only [madeCells]
  simp [h]
  match hk : i % 8, hm with
  | 0, _ | 1, _ | 2, _ | 3, _ | 4, _ | 5, _ | 6, _ | 7, _ => rfl
set_option maxRecDepth 100000 in
set_option maxHeartbeats 800000 in
theorem pm_New (n : Nat) (w : World) (h0 : 1 ≤ n) (h1 : n ≤ 1024) :
    Calls Try.prog 14 #[.int .i64 n] w fun e w' => e = .returned (.tuple #[.pointer (some ⟨w.heap.size + 2, 0, none⟩), .int .i64 0]) ∧ Ext [] w w' ∧ ∃ lb sb, DevAt w' (w.heap.size + 2) lb sb (dvNew n) ∧ w.heap.size ≤ lb ∧ w.heap.size ≤ sb := by
  obtain ⟨i0, hi, hz0, hz1, hz2⟩ := info_parts infoLine
  have hmk : ∀ w, (Instr.makeSlice 56 (.int .i64 (n : Int)) (.int .i64 (n : Int))).run Try.prog w = .ok (.slice (some ⟨w.heap.size, 0, none⟩) n n) (w.alloc (.cells (madeCells (Value.agg #[.int .u64 0, .int .u64 0, .int .u64 0, .int .u64 0, .int .u64 0, .int .u64 0, .int .u64 0, .int .u64 0]).cells (n * 8)) 122)) := by
    intro w
    have := run_make (P := Try.prog) w 56 122 i0 _ Try.underlying56 hi hz0 .i64 .i64 (n : Int) (n : Int) (by omega) (by omega) (by rw [hz2]; omega) (by omega)
    rw [hz1] at this
    simpa using this
  have hL : ∀ (W : World) (b : Nat), W.heap[b]? = some (.cells (madeCells (Value.agg #[.int .u64 0, .int .u64 0, .int .u64 0, .int .u64 0, .int .u64 0, .int .u64 0, .int .u64 0, .int .u64 0]).cells (n * 8)) 122 (0, 0)) → LinesB W b n (fun _ => 0) :=
    fun W b hb => ⟨_, hb, fun i hi => made_words (n * 8) i (by omega)⟩
  generalize madeCells _ (n * 8) = Z at *
  have HL := Lib.hid hL
  have hg1 : ¬ ((n : Int) < 1) := by omega
  have hg2 : ¬ ((1024 : Int) < (n : Int)) := by omega
  have HN := Lib.hid (And.intro h0 h1)
  clear hi hz0 hz1 hz2 hL h0 h1 i0
  go_enter Try.func14, Try.ntmps14
  go_wp2
  go_region
  all_goals go_wp2
  all_goals go_ret2
  · obtain ⟨a1, a2, a3, _⟩ := al3_heap (w := w) Z Z #[.slice (some ⟨w.heap.size, 0, none⟩) n n, .slice (some ⟨w.heap.size + 1, 0, none⟩) n n, .slice none 0 0] 122 122 59
    exact ⟨rfl, ((((Ext.refl [] w).alloc _).alloc _).alloc _).drew, w.heap.size, w.heap.size + 1, ⟨⟨n, n, _, a3, World.ownsRow_nil _ _ _ _⟩, HL.out _ _ a1, HL.out _ _ a2, by omega⟩, Nat.le_refl _, by omega⟩
  · obtain ⟨a1, a2, a3, _⟩ := al3_heap (w := w) Z Z #[.slice (some ⟨w.heap.size + 1, 0, none⟩) n n, .slice (some ⟨w.heap.size, 0, none⟩) n n, .slice none 0 0] 122 122 59
    exact ⟨rfl, ((((Ext.refl [] w).alloc _).alloc _).alloc _).drew, w.heap.size + 1, w.heap.size, ⟨⟨n, n, _, a3, World.ownsRow_nil _ _ _ _⟩, HL.out _ _ a2, HL.out _ _ a1, by omega⟩, by omega, Nat.le_refl _⟩
set_option maxHeartbeats 400000 in
theorem pm_NewBad (n : Int) (w : World) (h : n < 1 ∨ 1024 < n) : Calls Try.prog 14 #[.int .i64 n] w fun e w' => e = .returned (.tuple #[.pointer none, .int .i64 2]) ∧ w = w' := by
  rcases h with h | h
  all_goals
    go_enter Try.func14, Try.ntmps14
    go_wp2
    go_ret2
    exact ⟨rfl, rfl⟩

set_option maxHeartbeats 400000 in
theorem pm_Copy_none (bo : Option Addr) (w : World) (h : NoneD w (.pointer bo)) : Calls Try.prog 17 #[.pointer bo] w fun e w' => e = .returned (.pointer none) ∧ w = w' := by
  have HN := Lib.hid (pm_isnone _ w h)
  clear h
  go_enter Try.func17, Try.ntmps17
  go_wp2_with fail
  refine HN.out.mono ?_
  rintro e w' ⟨rfl, rfl⟩
  go_wp2
  go_ret
  exact ⟨rfl, rfl⟩

set_option maxRecDepth 100000 in
set_option maxHeartbeats 1600000 in
theorem pm_Copy (d lb sb : Nat) (D : Dv) (w : World) (hD : DevAt w d lb sb D) (hn : DvOk D) :
    Calls Try.prog 17 #[.pointer (some ⟨d, 0, none⟩)] w fun e w' => ∃ d' lb' sb', e = .returned (.pointer (some ⟨d', 0, none⟩)) ∧ Ext [] w w' ∧ DevAt w' d' lb' sb' D ∧ w.heap.size ≤ d' ∧ w.heap.size ≤ lb' ∧ w.heap.size ≤ sb' := by
  have HN := Lib.hid (pm_none d lb sb D w hD)
  have hlen := hn.len
  have hn1 := hn.n1
  have HD := Lib.hid (And.intro hD hn)
  obtain ⟨⟨cl, cs, wv, h1, hwv⟩, hl, hs, _⟩ := hD
  obtain ⟨wo, wc, rfl⟩ := slice_of_owns hwv
  have k0 := cell_of (j := 0) (v := .slice (some ⟨lb, 0, none⟩) D.n cl) h1 rfl
  have k1 := cell_of (j := 1) (v := .slice (some ⟨sb, 0, none⟩) D.n cs) h1 rfl
  have k2 := cell_of (j := 2) (v := .slice wo D.W.length wc) h1 rfl
  have HL := Lib.hid (fun W (hE : Ext [] w W) => pm_cloneL lb D.n cl D.L W (hl.ext hE (by simp)) hn.n0 hn.n1)
  have HS := Lib.hid (fun W (hE : Ext [] w W) => pm_cloneL sb D.n cs D.S W (hs.ext hE (by simp)) hn.n0 hn.n1)
  have HW := Lib.hid (fun W (hE : Ext [] w W) => pm_cloneW (.slice wo D.W.length wc) D.W W (hwv.ext hE (NoW.nil _)) (by omega))
  have hls := HD.out.1.2.2.2
  have HC : Hid (∀ W, Ext [] w W → W.cell? ⟨d, 0, none⟩ = some (.slice (some ⟨lb, 0, none⟩) D.n cl) ∧ W.cell? ⟨d, 1, none⟩ = some (.slice (some ⟨sb, 0, none⟩) D.n cs) ∧ W.cell? ⟨d, 2, none⟩ = some (.slice wo D.W.length wc)) :=
    fun W hE => ⟨hE.cell k0 (by simp), hE.cell k1 (by simp), hE.cell k2 (by simp)⟩
  have hd0 := hls
  clear hl hs hwv h1 hlen hn1 hls
  go_enter Try.func17, Try.ntmps17
  go_wp2_with fail
  refine HN.out.mono ?_
  rintro e w' ⟨rfl, rfl⟩
  go_wp2
  go_region_held3 (fun w' => w'.cell? ⟨d, 0, none⟩ = some (.slice (some ⟨lb, 0, none⟩) D.n cl) ∧ w'.cell? ⟨d, 1, none⟩ = some (.slice (some ⟨sb, 0, none⟩) D.n cs) ∧ w'.cell? ⟨d, 2, none⟩ = some (.slice wo D.W.length wc))
    (first | exact HC.out _ (Ext.refl _ _).drew | exact HC.out _ hXL | exact HC.out _ hXS | exact HC.out _ hXW | exact HC.out _ (hXL.alloc _) | exact HC.out _ (hXS.alloc _) | exact HC.out _ (hXW.alloc _) | (go_keep; done))
    ((first
      | (go_at_call_of 59 (Value.slice (some ⟨lb, 0, none⟩) D.n cl); refine (HL.out _ ?_).mono ?_
         · (first | exact (Ext.refl [] w).drew | exact hXS | exact hXW)
         rintro e wL ⟨bL, capL, rfl, hEL, hlL, hbL⟩
         have hXL : Ext [] w wL := by first | exact (Ext.refl [] w).drew.trans hEL | exact hXS.trans hEL | exact hXW.trans hEL
         have hsL := hEL.size
         have hltL := hlL.lt
         have HLL := Lib.hid hlL
         try (have hh := LinesB.ext HSS.out hEL (by simp); clear HSS; have HSS := Lib.hid hh; clear hh)
         try (have hh := WaitsV.ext HWW.out hEL (NoW.nil _); clear HWW; have HWW := Lib.hid hh; clear hh)
         clear hEL hlL)
      | (go_at_call_of 59 (Value.slice (some ⟨sb, 0, none⟩) D.n cs); refine (HS.out _ ?_).mono ?_
         · (first | exact (Ext.refl [] w).drew | exact hXL | exact hXW)
         rintro e wS ⟨bS, capS, rfl, hES, hlS, hbS⟩
         have hXS : Ext [] w wS := by first | exact (Ext.refl [] w).drew.trans hES | exact hXL.trans hES | exact hXW.trans hES
         have hsS := hES.size
         have hltS := hlS.lt
         have HSS := Lib.hid hlS
         try (have hh := LinesB.ext HLL.out hES (by simp); clear HLL; have HLL := Lib.hid hh; clear hh)
         try (have hh := WaitsV.ext HWW.out hES (NoW.nil _); clear HWW; have HWW := Lib.hid hh; clear hh)
         clear hES hlS)
      | (go_at_call 60; refine (HW.out _ ?_).mono ?_
         · (first | exact (Ext.refl [] w).drew | exact hXL | exact hXS)
         rintro e wW ⟨vW, rfl, hEW, hoW⟩
         obtain ⟨aoW, capW, rfl⟩ := slice_of_owns hoW
         have hXW : Ext [] w wW := by first | exact (Ext.refl [] w).drew.trans hEW | exact hXL.trans hEW | exact hXS.trans hEW
         have hsW := hEW.size
         have HWW := Lib.hid (show WaitsV wW (.slice aoW D.W.length capW) D.W from owns_base hoW (Nat.zero_le _))
         try (have hh := LinesB.ext HLL.out hEW (by simp); clear HLL; have HLL := Lib.hid hh; clear hh)
         try (have hh := LinesB.ext HSS.out hEW (by simp); clear HSS; have HSS := Lib.hid hh; clear hh)
         clear hEW hoW)
      | fail))
  all_goals go_wp2
  all_goals go_ret
  all_goals
    have hdw : w.drew.heap.size = w.heap.size := rfl
    have hsz := hXW.size
    exact ⟨wW.heap.size, bL, bS, rfl, hXW.alloc _, ⟨⟨capL, capS, _, World.alloc_heap_new _ _, WaitsV.ext HWW.out ((Ext.refl [] wW).alloc _) (NoW.nil _)⟩, HLL.out.ext ((Ext.refl [] wW).alloc _) (by simp), HSS.out.ext ((Ext.refl [] wW).alloc _) (by simp), by omega⟩, hsz, by omega, by omega⟩
end Go.Proofs.Ytfojmjkcjdehaaa
namespace Go.Proofs.Ytfojmjkcjdehaaa
open Go Go.RowKit Go.Shelf
attribute [local go_sem] Oper.semAt_some

/-- eight words that are the same -/
def eqW (G H : Wd) : Bool := (List.range 8).all fun i => G i == H i
theorem sizeU (w : World) : (sizeOf 23).run Try.prog w = .ok 1 w := by kernel_rfl
theorem neLine8 (G H : Wd) (w : World) : (binOp .neq 122 (.agg #[.int .u64 (G 0), .int .u64 (G 1), .int .u64 (G 2), .int .u64 (G 3), .int .u64 (G 4), .int .u64 (G 5), .int .u64 (G 6), .int .u64 (G 7)]) (.agg #[.int .u64 (H 0), .int .u64 (H 1), .int .u64 (H 2), .int .u64 (H 3), .int .u64 (H 4), .int .u64 (H 5), .int .u64 (H 6), .int .u64 (H 7)])).run Try.prog w = .ok (.bool (!eqW G H)) w :=
  run_neArr (P := Try.prog) w 122 8 23 .u64 Try.underlying122 Try.underlying23 (sizeU w) G H
/-- lines that are the same -/
def eqL (n : Nat) (F G : Wd) : Bool := (List.range n).all fun k => eqW (lineOf F k) (lineOf G k)
set_option maxRecDepth 100000 in
set_option maxHeartbeats 1600000 in
theorem pm_equalL (b c n cb cc : Nat) (F G : Wd) (w : World) (hF : LinesB w b n F) (hG : LinesB w c n G) (hn : n ≤ 1024) :
    Calls Try.prog 77 #[.slice (some ⟨b, 0, none⟩) n cb, .slice (some ⟨c, 0, none⟩) n cc] w fun e w' => e = .returned (.bool (eqL n F G)) ∧ ∃ q, w' = w.drewN q := by
  have HF := Lib.hid (And.intro hF (And.intro hG hn))
  have hnn : ((n : Int) != (n : Int)) = false := by simp
  clear hF hG hn
  go_enter Try.func77, Try.ntmps77
  go_wp2
  go_loopg [13] n (fun cnt i wr => ∃ j : Nat, i = .int .i64 j ∧ j + cnt = n ∧ (∃ q, wr = w.drewN q) ∧ ∀ t, t < j → eqW (lineOf F t) (lineOf G t) = true)
  case atStart => exact ⟨0, rfl, by omega, ⟨0, rfl⟩, fun t ht => by omega⟩
  case round =>
    obtain ⟨j, rfl, hj, ⟨q, hq⟩, hno⟩ := hrel
    have hE : Ext [] w wr := by rw [hq]; exact (Ext.refl [] w).drewN q
    by_cases hlt : j < n
    · obtain ⟨x0, x1, x2, x3, x4, x5, x6, x7⟩ := (HF.out.1.ext hE (by simp)).eight hlt
      obtain ⟨y0, y1, y2, y3, y4, y5, y6, y7⟩ := (HF.out.2.1.ext hE (by simp)).eight hlt
      obtain ⟨r, hr⟩ : ∃ r, eqW (lineOf F j) (lineOf G j) = r := ⟨_, rfl⟩
      have hne := neLine8 (lineOf F j) (lineOf G j)
      rw [hr] at hne
      simp only [lineOf, Nat.add_zero] at hne
      have HR := Lib.hid hr
      clear hr
      have hi0 : (0 : Int) ≤ (j : Int) := by omega
      have hi1 : (j : Int) < (n : Int) := by omega
      have hjm : (j : Int) ≤ 1024 := by have := HF.out.2.2; omega
      have HJ := Lib.hid (And.intro hj (And.intro hlt (And.intro hq hno)))
      clear hj hE hno hq
      cases r with
      | true =>
        have HB := HR
        simp only [Bool.not_true] at hne
        go_wp2
        go_quiet (fail)
        go_wp2
        go_roundg (n - (j + 1))
        case measure => have := HJ.out.1; omega
        case rel =>
          refine ⟨j + 1, by go_num, by have := HJ.out; omega, by rw [HJ.out.2.2.1]; exact ⟨_, World.drewN_drewN ..⟩, fun t ht => ?_⟩
          by_cases htj : t = j
          · subst htj; exact HB.out
          · exact HJ.out.2.2.2 t (by omega)
      | false =>
        have HB := HR
        simp only [Bool.not_false] at hne
        go_wp2
        go_quiet (fail)
        go_wp2
        go_ret
        refine ⟨?_, by rw [HJ.out.2.2.1]; exact ⟨_, World.drewN_drewN ..⟩⟩
        have : eqL n F G = false := by
          unfold eqL
          rw [Bool.eq_false_iff]
          intro h
          have := List.all_eq_true.1 h j (List.mem_range.2 HJ.out.2.1)
          rw [HB.out] at this
          cases this
        rw [this]
        rfl
    · have hd : decide (j < n) = false := by simpa using hlt
      have HJ := Lib.hid (And.intro hj (And.intro hlt (And.intro hq hno)))
      clear hj hlt hE hno hq
      go_wp2
      go_ret
      refine ⟨?_, _, HJ.out.2.2.1⟩
      have : eqL n F G = true := by
        unfold eqL
        rw [List.all_eq_true]
        intro t ht
        exact HJ.out.2.2.2 t (by have := List.mem_range.1 ht; have := HJ.out; omega)
      rw [this]
      rfl
end Go.Proofs.Ytfojmjkcjdehaaa
namespace Go.Proofs.Ytfojmjkcjdehaaa
open Go Go.RowKit Go.Shelf
attribute [local go_sem] Oper.semAt_some
theorem neWait (a b : Int) (G H : Wd) (w : World) : (binOp .neq 125 (.agg #[.int .i64 a, .int .u64 (G 0), .int .u64 (G 1), .int .u64 (G 2), .int .u64 (G 3), .int .u64 (G 4), .int .u64 (G 5), .int .u64 (G 6), .int .u64 (G 7)]) (.agg #[.int .i64 b, .int .u64 (H 0), .int .u64 (H 1), .int .u64 (H 2), .int .u64 (H 3), .int .u64 (H 4), .int .u64 (H 5), .int .u64 (H 6), .int .u64 (H 7)])).run Try.prog w = .ok (.bool (!(a == b && eqW G H))) w := by
  have u3 := Try.underlying3
  have u4 := Try.underlying122
  have hS : Try.prog.underlying 125 = some (.struct (Try.prog.fieldsOf 125)) := by kernel_rfl
  have hp : Try.prog.stoodInHeld 125 = false := by kernel_rfl
  have ha := run_equalIn_arr (P := Try.prog) w 9997 122 8 23 .u64 Try.underlying122 Try.underlying23 (sizeU w) G H
  rw [run_neq_struct, show (10000 : Nat) = 9999 + 1 from rfl, run_equalIn_agg w 9999 125 _ _ hS hp]
  simp only [Program.fieldsOf, Try.underlying125]
  go_simp
  rw [show (Sem.run Try.prog (Op.equalIn 9999 122 (.agg #[.int .u64 (G 0), .int .u64 (G 1), .int .u64 (G 2), .int .u64 (G 3), .int .u64 (G 4), .int .u64 (G 5), .int .u64 (G 6), .int .u64 (G 7)]) (.agg #[.int .u64 (H 0), .int .u64 (H 1), .int .u64 (H 2), .int .u64 (H 3), .int .u64 (H 4), .int .u64 (H 5), .int .u64 (H 6), .int .u64 (H 7)])) w) = .ok (eqW G H) w from ha]
  by_cases hab : a = b
  · cases hq : eqW G H <;> simp [hab]
  · simp [hab]
end Go.Proofs.Ytfojmjkcjdehaaa
namespace Go.Proofs.Ytfojmjkcjdehaaa
open Go Go.RowKit Go.Shelf
attribute [local go_sem] Oper.semAt_some

def eqWt (p q : Wt) : Bool := ((p.1 : Int) == (q.1 : Int)) && eqW p.2 q.2
def eqWs (A B : List Wt) : Bool := decide (A.length = B.length) && (List.range A.length).all fun i => eqWt (A.getD i wtD) (B.getD i wtD)
theorem WaitsV.nine {w : World} {ao : Option Addr} {n cap : Nat} {W : List Wt} (h : WaitsV w (.slice ao n cap) W) {i : Nat} (hi : i < W.length) : ∃ g, ao = some ⟨g, 0, none⟩ ∧
    w.cell? ⟨g, i * 9, none⟩ = some (.int .i64 (W.getD i wtD).1) ∧ w.cell? ⟨g, i * 9 + 1, none⟩ = some (.int .u64 ((W.getD i wtD).2 0)) ∧ w.cell? ⟨g, i * 9 + 2, none⟩ = some (.int .u64 ((W.getD i wtD).2 1)) ∧ w.cell? ⟨g, i * 9 + 3, none⟩ = some (.int .u64 ((W.getD i wtD).2 2)) ∧
    w.cell? ⟨g, i * 9 + 4, none⟩ = some (.int .u64 ((W.getD i wtD).2 3)) ∧ w.cell? ⟨g, i * 9 + 5, none⟩ = some (.int .u64 ((W.getD i wtD).2 4)) ∧ w.cell? ⟨g, i * 9 + 6, none⟩ = some (.int .u64 ((W.getD i wtD).2 5)) ∧ w.cell? ⟨g, i * 9 + 7, none⟩ = some (.int .u64 ((W.getD i wtD).2 6)) ∧ w.cell? ⟨g, i * 9 + 8, none⟩ = some (.int .u64 ((W.getD i wtD).2 7)) := by
  rcases owns_form h with ⟨_, h2, _⟩ | ⟨g, cap', hv, _⟩
  · omega
  · cases hv
    have hB := (RowB.of_owns (wR_ok W _) h).1
    have hr := hB.range hi
    refine ⟨g, rfl, ?_⟩
    have key : ∀ j v, (waitR (W.getD i wtD))[j]? = some v → w.cell? ⟨g, i * 9 + j, none⟩ = some v := hr
    exact ⟨key 0 _ rfl, key 1 _ rfl, key 2 _ rfl, key 3 _ rfl, key 4 _ rfl, key 5 _ rfl, key 6 _ rfl, key 7 _ rfl, key 8 _ rfl⟩
theorem WaitsV.len {w : World} {ao : Option Addr} {n cap : Nat} {W : List Wt} (h : WaitsV w (.slice ao n cap) W) : n = W.length := by
  rcases owns_form h with ⟨hv, h2, _⟩ | ⟨g, cap', hv, _⟩
  · cases hv; omega
  · cases hv; rfl
set_option maxRecDepth 100000 in
set_option maxHeartbeats 1600000 in
theorem pm_equalW (ao bo : Option Addr) (n m ca cb : Nat) (A B : List Wt) (w : World) (hA : WaitsV w (.slice ao n ca) A) (hB : WaitsV w (.slice bo m cb) B) (hn : A.length ≤ 1024) :
    Calls Try.prog 78 #[.slice ao n ca, .slice bo m cb] w fun e w' => e = .returned (.bool (eqWs A B)) ∧ ∃ q, w' = w.drewN q := by
  have hnA := hA.len
  have hmB := hB.len
  by_cases hl : n = m
  · have hnn : ((n : Int) != (m : Int)) = false := by simp [hl]
    have HF := Lib.hid (And.intro hA (And.intro hB (And.intro hn (And.intro hnA (And.intro hmB hl)))))
    clear hA hB hn hnA hmB hl
    go_enter Try.func78, Try.ntmps78
    go_wp2
    go_loopg [13] n (fun cnt i wr => ∃ j : Nat, i = .int .i64 j ∧ j + cnt = n ∧ (∃ q, wr = w.drewN q) ∧ ∀ t, t < j → eqWt (A.getD t wtD) (B.getD t wtD) = true)
    case atStart => exact ⟨0, rfl, by omega, ⟨0, rfl⟩, fun t ht => by omega⟩
    case round =>
      obtain ⟨j, rfl, hj, ⟨q, hq⟩, hno⟩ := hrel
      have hE : Ext [] w wr := by rw [hq]; exact (Ext.refl [] w).drewN q
      by_cases hlt : j < n
      · obtain ⟨g, rfl, x0, x1, x2, x3, x4, x5, x6, x7, x8⟩ := (HF.out.1.ext hE (NoW.nil _)).nine (i := j) (by have := HF.out; omega)
        obtain ⟨g2, rfl, y0, y1, y2, y3, y4, y5, y6, y7, y8⟩ := (HF.out.2.1.ext hE (NoW.nil _)).nine (i := j) (by have := HF.out; omega)
        obtain ⟨r, hr⟩ : ∃ r, eqWt (A.getD j wtD) (B.getD j wtD) = r := ⟨_, rfl⟩
        have hne := neWait (A.getD j wtD).1 (B.getD j wtD).1 (A.getD j wtD).2 (B.getD j wtD).2
        rw [show (((A.getD j wtD).1 : Int) == ((B.getD j wtD).1 : Int) && eqW (A.getD j wtD).2 (B.getD j wtD).2) = r from hr] at hne
        have HR := Lib.hid hr
        clear hr
        obtain ⟨pa, hpa⟩ : ∃ pa, A.getD j wtD = pa := ⟨_, rfl⟩
        obtain ⟨pb, hpb⟩ : ∃ pb, B.getD j wtD = pb := ⟨_, rfl⟩
        rw [hpa, hpb] at hne
        rw [hpa] at x0 x1 x2 x3 x4 x5 x6 x7 x8
        rw [hpb] at y0 y1 y2 y3 y4 y5 y6 y7 y8
        clear hpa hpb
        have hi0 : (0 : Int) ≤ (j : Int) := by omega
        have hi1 : (j : Int) < (n : Int) := by omega
        have hi2 : (j : Int) < (m : Int) := by have := HF.out; omega
        have hjm : (j : Int) ≤ 1024 := by have := HF.out; omega
        have HJ := Lib.hid (And.intro hj (And.intro hlt (And.intro hq hno)))
        clear hj hE hno hq
        cases r with
        | true =>
          have HB := HR
          simp only [Bool.not_true] at hne
          go_wp2
          go_quiet (fail)
          go_wp2
          go_roundg (n - (j + 1))
          case measure => have := HJ.out.1; omega
          case rel =>
            refine ⟨j + 1, by go_num, by have := HJ.out; omega, by rw [HJ.out.2.2.1]; exact ⟨_, World.drewN_drewN ..⟩, fun t ht => ?_⟩
            by_cases htj : t = j
            · subst htj; exact HB.out
            · exact HJ.out.2.2.2 t (by omega)
        | false =>
          have HB := HR
          simp only [Bool.not_false] at hne
          go_wp2
          go_quiet (fail)
          go_wp2
          go_ret
          refine ⟨?_, by rw [HJ.out.2.2.1]; exact ⟨_, World.drewN_drewN ..⟩⟩
          have : eqWs A B = false := by
            unfold eqWs
            rw [Bool.eq_false_iff]
            intro h
            have := List.all_eq_true.1 (Bool.and_eq_true_iff.1 h).2 j (List.mem_range.2 (by have := HF.out; have := HJ.out.2.1; omega))
            rw [HB.out] at this
            cases this
          rw [this]
          rfl
      · have hd : decide (j < n) = false := by simpa using hlt
        have HJ := Lib.hid (And.intro hj (And.intro hlt (And.intro hq hno)))
        clear hj hlt hE hno hq
        go_wp2
        go_ret
        refine ⟨?_, _, HJ.out.2.2.1⟩
        have : eqWs A B = true := by
          unfold eqWs
          have hAB : A.length = B.length := by have := HF.out; omega
          rw [decide_eq_true hAB, Bool.true_and, List.all_eq_true]
          intro t ht
          exact HJ.out.2.2.2 t (by have := List.mem_range.1 ht; have := HJ.out; have := HF.out; omega)
        rw [this]
        rfl
  · have hnn : ((n : Int) != (m : Int)) = true := by simp; omega
    have hr : eqWs A B = false := by unfold eqWs; rw [decide_eq_false (by omega), Bool.false_and]
    rw [hr]
    clear hA hB hn hnA hmB hl hr
    go_enter Try.func78, Try.ntmps78
    go_wp2
    go_ret
    exact ⟨rfl, 0, rfl⟩
end Go.Proofs.Ytfojmjkcjdehaaa
