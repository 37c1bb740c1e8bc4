/- Package pmem: what Load, Stays, Store and Swap do to a word. Package pmem: Clone of lines and of what waits; what waits but for a line. Package pmem: DeleteFunc over what waits; without. Package pmem: what Flush and Evict do. Package pmem: what Flush does. Package pmem: settle. -/
import Derived.Test.YtfojmjkcjdehaaaPgA
import Derived.Test.YtfojmjkcjdehaaaRwB
import Derived.Deep.LoopGhost
import Derived.StillTailTactics
import Derived.Deep.AppendLies
namespace Go.Proofs.Ytfojmjkcjdehaaa
open Go Go.RowKit Go.Shelf
attribute [local go_sem] Oper.semAt_some

theorem DevAt.put {w : World} {d lb sb : Nat} {D : Dv} (h : DevAt w d lb sb D) {a : Nat} (ha : a < 8 * D.n) (v : Int) : DevAt (w.setCell ⟨lb, a, none⟩ (.int .u64 v)) d lb sb (D.put a v) := by
  have hne := h.ne
  have hnw := h.noW
  have hE : Ext [lb] w (w.setCell ⟨lb, a, none⟩ (.int .u64 v)) := (Ext.refl [lb] w).setCell (.inl (by simp)) _
  obtain ⟨⟨cl, cs, wv, h1, h5⟩, h2, h3, h4⟩ := h
  exact ⟨⟨cl, cs, wv, hE.at h1 (by simp [hne.1]), h5.ext hE (fun g cur hg hm => hnw g cur hg (by simp at hm; simp [hm]))⟩, h2.set ha v, h3.ext hE (by simp [Ne.symm h4]), h4⟩

set_option maxRecDepth 100000 in
set_option maxHeartbeats 800000 in
theorem pm_load1 (b1 b2 d lb sb a : Nat) (D : Dv) (w : World) (hD : DevAt w d lb sb D) (hn : D.n ≤ 1024) (hO : Own2 w b1 b2 (.pointer (some ⟨d, 0, none⟩)) (a : Int)) (ha : a < 8 * D.n) :
    Calls Try.prog 66 #[.pointer (some ⟨b1, 0, none⟩), .pointer (some ⟨b2, 0, none⟩)] w fun e w' => e = .returned (.int .u64 (D.L a)) ∧ Ext [] w w' := by
  have k3 := hD.2.1.cell ha
  obtain ⟨⟨cl, cs, wv, h1, hwv⟩, hrest⟩ := hD
  clear hwv hrest
  have k0 := cell_of (j := 0) (v := .slice (some ⟨lb, 0, none⟩) D.n cl) h1 rfl
  have k1 := cell_of (j := 0) (v := .pointer (some ⟨d, 0, none⟩)) hO.1 rfl
  have k2 := cell_of (j := 0) (v := .int .i64 (a : Int)) hO.2 rfl
  have HW := Lib.hid (fun w => pm_word lb D.n cl (a : Int) hn w)
  rw [wordV_in ha] at HW
  clear h1 hO ha hn
  generalize D.L a = x at *
  go_enter Try.func66, Try.ntmps66
  go_wp2
  go_region_held3 (fun w' => w'.cell? ⟨d, 0, none⟩ = some (.slice (some ⟨lb, 0, none⟩) D.n cl) ∧ w'.cell? ⟨b1, 0, none⟩ = some (.pointer (some ⟨d, 0, none⟩)) ∧ w'.cell? ⟨b2, 0, none⟩ = some (.int .i64 (a : Int)) ∧ w'.cell? ⟨lb, a, none⟩ = some (.int .u64 x))
    (first | go_keep | exact ⟨hE1.cell (w := w.drew) k0 (by simp), hE1.cell (w := w.drew) k1 (by simp), hE1.cell (w := w.drew) k2 (by simp), hE1.cell (w := w.drew) k3 (by simp)⟩)
    ((go_at_call 63; refine (HW.out _).mono ?_; rintro e w1 ⟨rfl, hE1⟩))
  all_goals go_wp2
  all_goals go_ret
  all_goals exact ⟨rfl, (Ext.refl [] w).drew.trans hE1⟩
set_option maxRecDepth 100000 in
set_option maxHeartbeats 800000 in
theorem pm_stays1 (b1 b2 d lb sb a : Nat) (D : Dv) (w : World) (hD : DevAt w d lb sb D) (hn : D.n ≤ 1024) (hO : Own2 w b1 b2 (.pointer (some ⟨d, 0, none⟩)) (a : Int)) (ha : a < 8 * D.n) :
    Calls Try.prog 67 #[.pointer (some ⟨b1, 0, none⟩), .pointer (some ⟨b2, 0, none⟩)] w fun e w' => e = .returned (.int .u64 (D.S a)) ∧ Ext [] w w' := by
  have k3 := hD.2.2.1.cell ha
  obtain ⟨⟨cl, cs, wv, h1, hwv⟩, hrest⟩ := hD
  clear hwv hrest
  have k0 := cell_of (j := 1) (v := .slice (some ⟨sb, 0, none⟩) D.n cs) h1 rfl
  have k1 := cell_of (j := 0) (v := .pointer (some ⟨d, 0, none⟩)) hO.1 rfl
  have k2 := cell_of (j := 0) (v := .int .i64 (a : Int)) hO.2 rfl
  have HW := Lib.hid (fun w => pm_word sb D.n cs (a : Int) hn w)
  rw [wordV_in ha] at HW
  clear h1 hO ha hn
  generalize D.S a = x at *
  go_enter Try.func67, Try.ntmps67
  go_wp2
  go_region_held3 (fun w' => w'.cell? ⟨d, 1, none⟩ = some (.slice (some ⟨sb, 0, none⟩) D.n cs) ∧ w'.cell? ⟨b1, 0, none⟩ = some (.pointer (some ⟨d, 0, none⟩)) ∧ w'.cell? ⟨b2, 0, none⟩ = some (.int .i64 (a : Int)) ∧ w'.cell? ⟨sb, a, none⟩ = some (.int .u64 x))
    (first | go_keep | exact ⟨hE1.cell (w := w.drew) k0 (by simp), hE1.cell (w := w.drew) k1 (by simp), hE1.cell (w := w.drew) k2 (by simp), hE1.cell (w := w.drew) k3 (by simp)⟩)
    ((go_at_call 63; refine (HW.out _).mono ?_; rintro e w1 ⟨rfl, hE1⟩))
  all_goals go_wp2
  all_goals go_ret
  all_goals exact ⟨rfl, (Ext.refl [] w).drew.trans hE1⟩

theorem Own2.ne {w : World} {b1 b2 lb n : Nat} {v : Value} {k : Int} {F : Wd} (h : Own2 w b1 b2 v k) (hL : LinesB w lb n F) : b1 ≠ lb ∧ b2 ≠ lb := by
  obtain ⟨cur, hc, _⟩ := hL
  refine ⟨?_, ?_⟩
  · rintro rfl
    have := h.1
    rw [hc] at this
    simp at this
  · rintro rfl
    have := h.2
    rw [hc] at this
    simp at this
/-- behind what a device is asked to do -/
def DevPost (m : List Nat) (w : World) (d lb sb : Nat) (D' : Dv) (w' : World) : Prop := DevAt w' d lb sb D' ∧ Ext m w w'
/-- behind a store of a word -/
def PutPost (w : World) (d lb sb : Nat) (D' : Dv) (w' : World) : Prop := DevAt w' d lb sb D' ∧ Ext [lb] w w'
set_option maxRecDepth 100000 in
set_option maxHeartbeats 800000 in
theorem pm_store1 (b0 b1 b2 d lb sb a : Nat) (v : Int) (D : Dv) (w : World) (hD : DevAt w d lb sb D) (hn : D.n ≤ 1024) (hO : Own2 w b1 b2 (.pointer (some ⟨d, 0, none⟩)) (a : Int)) (hv : w.heap[b0]? = some (.cells #[.int .u64 v] 23 (0, 0))) (ha : a < 8 * D.n) :
    Calls Try.prog 62 #[.pointer (some ⟨b0, 0, none⟩), .pointer (some ⟨b1, 0, none⟩), .pointer (some ⟨b2, 0, none⟩)] w fun e w' => e = .returned (.int .u64 v) ∧ PutPost w d lb sb (D.put a v) w' := by
  have k3 := hD.2.1.cell ha
  have f3 := hD.2.1.free a
  have hll := hD.2.1.lt
  have HD := Lib.hid (And.intro hD ha)
  have hdl := hD.ne.1
  obtain ⟨hb1, hb2⟩ := hO.ne hD.2.1
  have hb0 : b0 ≠ lb := by
    rintro rfl
    obtain ⟨cur, hc, _⟩ := hD.2.1
    rw [hc] at hv
    simp at hv
  obtain ⟨⟨cl, cs, wv, h1, hwv⟩, hrest⟩ := hD
  clear hwv hrest
  have k0 := cell_of (j := 0) (v := .slice (some ⟨lb, 0, none⟩) D.n cl) h1 rfl
  have k1 := cell_of (j := 0) (v := .pointer (some ⟨d, 0, none⟩)) hO.1 rfl
  have k2 := cell_of (j := 0) (v := .int .i64 (a : Int)) hO.2 rfl
  have k4 := cell_of (j := 0) (v := .int .u64 v) hv rfl
  have HW := Lib.hid (fun w => pm_word lb D.n cl (a : Int) hn w)
  rw [wordV_in ha] at HW
  have hb0' : ¬ (lb = b0) := fun h => hb0 h.symm
  clear h1 hO ha hn hv
  go_enter Try.func62, Try.ntmps62
  go_wp2
  go_region_held3 (fun w' => w'.cell? ⟨d, 0, none⟩ = some (.slice (some ⟨lb, 0, none⟩) D.n cl) ∧ w'.cell? ⟨b1, 0, none⟩ = some (.pointer (some ⟨d, 0, none⟩)) ∧ w'.cell? ⟨b2, 0, none⟩ = some (.int .i64 (a : Int)) ∧ w'.cell? ⟨b0, 0, none⟩ = some (.int .u64 v))
    (first
      | (go_keep; done)
      | (refine ⟨?_, ?_, ?_, ?_⟩ <;> (go_keep; done))
      | exact ⟨hE1.cell (w := w.drew) k0 (by simp), hE1.cell (w := w.drew) k1 (by simp), hE1.cell (w := w.drew) k2 (by simp), hE1.cell (w := w.drew) k4 (by simp)⟩
      | (have hEs : Ext [lb] w1 (w1.setCell ⟨lb, a, none⟩ (.int .u64 v)) := (Ext.refl [lb] w1).setCell (.inl (by simp)) _
         exact ⟨hEs.cell (hE1.cell (w := w.drew) k0 (by simp)) (by simp [hdl]), hEs.cell (hE1.cell (w := w.drew) k1 (by simp)) (by simp [hb1]), hEs.cell (hE1.cell (w := w.drew) k2 (by simp)) (by simp [hb2]), hEs.cell (hE1.cell (w := w.drew) k4 (by simp)) (by simp [hb0])⟩))
    ((go_at_call 63; refine (HW.out _).mono ?_; rintro e w1 ⟨rfl, hE1⟩; have q3 := hE1.cell (w := w.drew) k3 (by simp); have g3 := hE1.frozen (w := w.drew) f3 hll (by simp)))
  all_goals go_wp2
  all_goals go_ret
  all_goals exact ⟨rfl, (HD.out.1.ext0 ((Ext.refl [] w).drew.trans hE1)).put HD.out.2 v, ((Ext.refl [] w).drew.trans hE1).wide.setCell (.inl (by simp)) _⟩

/-- a word is another one, if it was the one -/
def Dv.swapTo (D : Dv) (a : Nat) (fr to : Int) : Dv := if D.L a = fr then D.put a to else D
/-- the swap's own -/
def Own4 (w : World) (b1 b2 b3 b4 : Nat) (v : Value) (k fr to : Int) : Prop := Own2 w b1 b2 v k ∧ w.heap[b3]? = some (.cells #[.int .u64 fr] 23 (0, 0)) ∧ w.heap[b4]? = some (.cells #[.int .u64 to] 23 (0, 0))
theorem word_ne {w : World} {b lb n : Nat} {v : Value} {F : Wd} (h : w.heap[b]? = some (.cells #[v] 23 (0, 0))) (hL : LinesB w lb n F) : b ≠ lb := by
  rintro rfl
  obtain ⟨cur, hc, _⟩ := hL
  rw [hc] at h
  simp at h
set_option maxRecDepth 100000 in
set_option maxHeartbeats 1200000 in
theorem pm_swap1 (b1 b2 b3 b4 d lb sb a : Nat) (fr to : Int) (D : Dv) (w : World) (hD : DevAt w d lb sb D) (hn : D.n ≤ 1024) (hO : Own4 w b1 b2 b3 b4 (.pointer (some ⟨d, 0, none⟩)) (a : Int) fr to) (ha : a < 8 * D.n) :
    Calls Try.prog 80 #[.pointer (some ⟨b1, 0, none⟩), .pointer (some ⟨b2, 0, none⟩), .pointer (some ⟨b3, 0, none⟩), .pointer (some ⟨b4, 0, none⟩)] w fun e w' => e = .returned (.bool (D.L a == fr)) ∧ PutPost w d lb sb (D.swapTo a fr to) w' := by
  unfold Dv.swapTo
  have k3 := hD.2.1.cell ha
  have f3 := hD.2.1.free a
  have hll := hD.2.1.lt
  have HD := Lib.hid (And.intro hD ha)
  have hdl := hD.ne.1
  obtain ⟨hb1, hb2⟩ := hO.1.ne hD.2.1
  have hb4 := word_ne hO.2.2 hD.2.1
  obtain ⟨⟨cl, cs, wv, h1, hwv⟩, hrest⟩ := hD
  clear hwv hrest
  have k0 := cell_of (j := 0) (v := .slice (some ⟨lb, 0, none⟩) D.n cl) h1 rfl
  have k1 := cell_of (j := 0) (v := .pointer (some ⟨d, 0, none⟩)) hO.1.1 rfl
  have k2 := cell_of (j := 0) (v := .int .i64 (a : Int)) hO.1.2 rfl
  have k5 := cell_of (j := 0) (v := .int .u64 fr) hO.2.1 rfl
  have k6 := cell_of (j := 0) (v := .int .u64 to) hO.2.2 rfl
  have HW := Lib.hid (fun w => pm_word lb D.n cl (a : Int) hn w)
  rw [wordV_in ha] at HW
  clear h1 hO ha hn
  by_cases hx : D.L a = fr
  · rw [if_pos hx]
    have hxb : (D.L a == fr) = true := by simpa using hx
    rw [hxb]
    clear hx
    generalize hxx : D.L a = x at *
    clear hxx
    go_enter Try.func80, Try.ntmps80
    go_wp2
    go_region_held3 (fun w' => w'.cell? ⟨d, 0, none⟩ = some (.slice (some ⟨lb, 0, none⟩) D.n cl) ∧ w'.cell? ⟨b1, 0, none⟩ = some (.pointer (some ⟨d, 0, none⟩)) ∧ w'.cell? ⟨b2, 0, none⟩ = some (.int .i64 (a : Int)) ∧ w'.cell? ⟨lb, a, none⟩ = some (.int .u64 x) ∧ w'.cell? ⟨b3, 0, none⟩ = some (.int .u64 fr))
      (first
        | (go_keep; done)
        | exact ⟨hE1.cell (w := w.drew) k0 (by simp), hE1.cell (w := w.drew) k1 (by simp), hE1.cell (w := w.drew) k2 (by simp), hE1.cell (w := w.drew) k3 (by simp), hE1.cell (w := w.drew) k5 (by simp)⟩)
      ((go_at_call 63; refine (HW.out _).mono ?_; rintro e w1 ⟨rfl, hE1⟩))
    go_wp2
    have hE1' : Ext [] w w1 := (Ext.refl [] w).drew.trans hE1
    have j0 := hE1'.cell k0 (by simp)
    have j1 := hE1'.cell k1 (by simp)
    have j2 := hE1'.cell k2 (by simp)
    have j3 := hE1'.cell k3 (by simp)
    have j6 := hE1'.cell k6 (by simp)
    have g3 := hE1'.frozen f3 hll (by simp)
    have hll1 : lb < w1.heap.size := Nat.lt_of_lt_of_le hll hE1'.size
    have H1 := Lib.hid hE1'
    clear k0 k1 k2 k3 k5 k6 f3 hll hE1 hE1'
    go_region_held3 (fun w' => w'.cell? ⟨d, 0, none⟩ = some (.slice (some ⟨lb, 0, none⟩) D.n cl) ∧ w'.cell? ⟨b1, 0, none⟩ = some (.pointer (some ⟨d, 0, none⟩)) ∧ w'.cell? ⟨b2, 0, none⟩ = some (.int .i64 (a : Int)) ∧ w'.cell? ⟨b4, 0, none⟩ = some (.int .u64 to))
      (first
        | (go_keep; done)
        | exact ⟨hE2.cell (w := w1.drew) j0 (by simp), hE2.cell (w := w1.drew) j1 (by simp), hE2.cell (w := w1.drew) j2 (by simp), hE2.cell (w := w1.drew) j6 (by simp)⟩
        | (have hEs : Ext [lb] w2 (w2.setCell ⟨lb, a, none⟩ (.int .u64 to)) := (Ext.refl [lb] w2).setCell (.inl (by simp)) _
           exact ⟨hEs.cell (hE2.cell (w := w1.drew) j0 (by simp)) (by simp [hdl]), hEs.cell (hE2.cell (w := w1.drew) j1 (by simp)) (by simp [hb1]), hEs.cell (hE2.cell (w := w1.drew) j2 (by simp)) (by simp [hb2]), hEs.cell (hE2.cell (w := w1.drew) j6 (by simp)) (by simp [hb4])⟩))
      ((go_at_call 63; refine (HW.out _).mono ?_; rintro e w2 ⟨rfl, hE2⟩; have q3 := hE2.cell (w := w1.drew) j3 (by simp); have g3 := hE2.frozen (w := w1.drew) g3 hll1 (by simp)))
    all_goals go_wp2
    all_goals go_ret
    all_goals
      have hE := H1.out.trans ((Ext.refl [] w1).drew.trans hE2)
      exact ⟨rfl, (HD.out.1.ext0 hE).put HD.out.2 to, hE.wide.setCell (.inl (by simp)) _⟩
  · rw [if_neg hx]
    have hxb : (D.L a == fr) = false := by simpa using hx
    rw [hxb]
    clear hx
    generalize hxx : D.L a = x at *
    clear hxx
    go_enter Try.func80, Try.ntmps80
    go_wp2
    go_region_held3 (fun w' => w'.cell? ⟨d, 0, none⟩ = some (.slice (some ⟨lb, 0, none⟩) D.n cl) ∧ w'.cell? ⟨b1, 0, none⟩ = some (.pointer (some ⟨d, 0, none⟩)) ∧ w'.cell? ⟨b2, 0, none⟩ = some (.int .i64 (a : Int)) ∧ w'.cell? ⟨lb, a, none⟩ = some (.int .u64 x) ∧ w'.cell? ⟨b3, 0, none⟩ = some (.int .u64 fr))
      (first
        | (go_keep; done)
        | exact ⟨hE1.cell (w := w.drew) k0 (by simp), hE1.cell (w := w.drew) k1 (by simp), hE1.cell (w := w.drew) k2 (by simp), hE1.cell (w := w.drew) k3 (by simp), hE1.cell (w := w.drew) k5 (by simp)⟩)
      ((go_at_call 63; refine (HW.out _).mono ?_; rintro e w1 ⟨rfl, hE1⟩))
    go_wp2
    go_ret
    have hE1' : Ext [] w w1 := (Ext.refl [] w).drew.trans hE1
    exact ⟨rfl, HD.out.1.ext0 hE1', hE1'.wide⟩
end Go.Proofs.Ytfojmjkcjdehaaa
namespace Go.Proofs.Ytfojmjkcjdehaaa
open Go Go.RowKit Go.Shelf
attribute [local go_sem] Oper.semAt_some

/-- a line's cells -/
def lnR (F : Wd) : Nat → List Value := fun k => [.int .u64 (F (8 * k)), .int .u64 (F (8 * k + 1)), .int .u64 (F (8 * k + 2)), .int .u64 (F (8 * k + 3)), .int .u64 (F (8 * k + 4)), .int .u64 (F (8 * k + 5)), .int .u64 (F (8 * k + 6)), .int .u64 (F (8 * k + 7))]
theorem lnR_ok (F : Wd) (n : Nat) : RowOk n 8 (lnR F) := ⟨fun _ _ => rfl, fun i _ u hu => by simp [lnR] at hu; rcases hu with rfl | rfl | rfl | rfl | rfl | rfl | rfl | rfl <;> rfl⟩
theorem lnR_get (F : Wd) (k j : Nat) (hj : j < 8) : (lnR F k)[j]? = some (.int .u64 (F (8 * k + j))) := by
  match j, hj with
  | 0, _ | 1, _ | 2, _ | 3, _ | 4, _ | 5, _ | 6, _ | 7, _ => rfl
theorem LinesB.range {w : World} {b n : Nat} {F : Wd} (h : LinesB w b n F) {k : Nat} (hk : k < n) : w.rangeAt b (k * 8) (lnR F k) := by
  intro j v hv
  have hj : j < 8 := by have := (List.getElem?_eq_some_iff.1 hv).1; simpa [lnR] using this
  rw [lnR_get F k j hj] at hv
  cases hv
  have := h.cell (i := 8 * k + j) (by omega)
  rw [show k * 8 + j = 8 * k + j from by omega]
  exact this
theorem LinesB.src {w : World} {b n : Nat} {F : Wd} (h : LinesB w b n F) : RowSrc w (some ⟨b, 0, none⟩) n 8 (rowC (lnR F) n) := by
  refine .inr ⟨_, rfl, rowC_len (lnR_ok F n).len, fun k u hk => ?_, rowC_one (lnR_ok F n).one⟩
  obtain ⟨i, j, hi, hj, rfl, hu⟩ := rowC_at (lnR_ok F n).len hk
  rw [add_off, Nat.zero_add]
  exact h.range hi j u hu
theorem LinesB.of_owns {w : World} {base b n cap : Nat} {F : Wd} (h : w.ownsRow base 122 8 (.slice (some ⟨b, 0, none⟩) n cap) n (rowC (lnR F) n)) : LinesB w b n F ∧ base ≤ b := by
  obtain ⟨⟨h0, cur, h1, h2, h3⟩, hb, _⟩ := RowB.of_owns (lnR_ok F n) h
  refine ⟨⟨cur, h1, fun i hi => ?_⟩, hb⟩
  have := h3 (i / 8) (by omega) (i % 8) _ (lnR_get F (i / 8) (i % 8) (by omega))
  rw [show i / 8 * 8 + i % 8 = i from by omega, show 8 * (i / 8) + i % 8 = i from by omega] at this
  simpa [World.cell?, h1] using this

set_option maxRecDepth 100000 in
set_option maxHeartbeats 800000 in
theorem pm_cloneL (b n cap : Nat) (F : Wd) (w : World) (h : LinesB w b n F) (h0 : 1 ≤ n) (h1 : n ≤ 1024) :
    Calls Try.prog 59 #[.slice (some ⟨b, 0, none⟩) n cap] w fun e w' => ∃ b' cap', e = .returned (.slice (some ⟨b', 0, none⟩) n cap') ∧ Ext [] w w' ∧ LinesB w' b' n F ∧ w.heap.size ≤ b' := by
  obtain ⟨i0, hi, hz0, hz1, hz2⟩ := info_parts infoLine
  have hs := h.src.ext (k := []) ((Ext.refl [] w).alloc (.cells #[] 122)) (fun _ _ => by simp)
  have ho : (w.alloc (.cells #[] 122)).ownsRow w.heap.size 122 8 (.slice (some ⟨w.heap.size, 0, none⟩) 0 0) 0 [] := owns_empty (World.alloc_heap_new _ _) (Nat.le_refl _)
  have he := eqlLines
  have HS := Lib.hid (And.intro hs (And.intro ho (And.intro h0 h1)))
  clear h hs ho h0 h1
  go_enter Try.func59, Try.ntmps59
  go_wp2_with (at_builtin; refine wpList_append_any rfl _ _ 56 rfl w.heap.size 122 i0 _ 8 64 Try.underlying56 hi hz0 hz1 hz2 rfl (by decide) _ _ _ rfl HS.out.2.1 (some ⟨b, 0, none⟩) n cap (rowC (lnR F) n) rfl HS.out.1 (by have := HS.out.2.2; unfold maxLen; omega) (by have := HS.out.2.2; omega) (by simp) ?_)
  intro v w1 ho1 hE1 hl1
  try rw [Nat.zero_add] at ho1
  try rw [List.nil_append] at ho1
  have hE : Ext [] w w1 := ((Ext.refl [] w).alloc (.cells #[] 122)).trans' hE1 (fun j hj => .inr (by simp [Value.ownBlock] at hj; omega))
  rcases owns_form ho1 with ⟨_, hn0, _⟩ | ⟨g, cap', rfl, hg, _⟩
  · have := HS.out.2.2.1; omega
  · have HF := Lib.hid (And.intro hE (LinesB.of_owns ho1))
    clear ho1 hE1 hl1 hE hg
    go_wp2
    go_ret
    exact ⟨g, cap', rfl, HF.out.1, HF.out.2.1, HF.out.2.2⟩

theorem eqlWaits (a : Option Addr) (n c : Nat) (w : World) : (binOp .eql 57 (.slice a n c) (.slice none 0 0)).run Try.prog w = .ok (.bool a.isNone) w :=
  Lib.run_eql_slice_nil _ _ _ _ _ _ _ _ Try.underlying57
set_option maxRecDepth 100000 in
set_option maxHeartbeats 800000 in
/-- a clone of what waits: nil, or a block of its own -/
theorem pm_cloneW (v : Value) (W : List Wt) (w : World) (h : WaitsV w v W) (h1 : W.length ≤ 1024) :
    Calls Try.prog 60 #[v] w fun e w' => ∃ v', e = .returned v' ∧ Ext [] w w' ∧ w'.ownsRow w.heap.size 125 9 v' W.length (rowC (wR W) W.length) := by
  obtain ⟨i0, hi, hz0, hz1, hz2⟩ := info_parts infoWait
  have he := eqlWaits
  rcases owns_form h with ⟨rfl, hl, hx⟩ | ⟨g, cap, rfl, _, _⟩
  · have HX := Lib.hid (And.intro hl hx)
    clear h hl hx h1
    go_enter Try.func60, Try.ntmps60
    go_wp2
    go_ret
    refine ⟨_, rfl, Ext.refl _ _, ?_⟩
    rw [HX.out.2, HX.out.1]
    exact World.ownsRow_nil _ _ _ _
  · obtain ⟨ao, cap2, hv, hsrc⟩ := owns_src h (rowC_one (wR_ok W W.length).one)
    cases hv
    have hs := hsrc.ext (k := []) ((Ext.refl [] w).alloc (.cells #[] 125)) (fun _ _ => by simp)
    have ho : (w.alloc (.cells #[] 125)).ownsRow w.heap.size 125 9 (.slice (some ⟨w.heap.size, 0, none⟩) 0 0) 0 [] := owns_empty (World.alloc_heap_new _ _) (Nat.le_refl _)
    have HS := Lib.hid (And.intro hs (And.intro ho h1))
    clear h hsrc hs ho h1
    go_enter Try.func60, Try.ntmps60
    go_wp2_with (at_builtin; refine wpList_append_any rfl _ _ 57 rfl w.heap.size 125 i0 _ 9 72 Try.underlying57 hi hz0 hz1 hz2 rfl (by decide) _ _ _ rfl HS.out.2.1 (some ⟨g, 0, none⟩) W.length cap (rowC (wR W) W.length) rfl HS.out.1 (by have := HS.out.2.2; unfold maxLen; omega) (by have := HS.out.2.2; omega) (by simp) ?_)
    intro v w1 ho1 hE1 hl1
    try rw [Nat.zero_add] at ho1
    try rw [List.nil_append] at ho1
    have hE : Ext [] w w1 := ((Ext.refl [] w).alloc (.cells #[] 125)).trans' hE1 (fun j hj => .inr (by simp [Value.ownBlock] at hj; omega))
    have HF := Lib.hid (And.intro hE ho1)
    clear ho1 hE1 hl1 hE
    go_wp2
    go_ret
    exact ⟨_, rfl, HF.out.1, HF.out.2⟩

/-- does a thing that waits wait for the line? -/
def isW (k : Int) (p : Wt) : Bool := decide ((p.1 : Int) = k)
set_option maxRecDepth 100000 in
set_option maxHeartbeats 800000 in
theorem pm_without1 (p : Wt) (bk : Nat) (k : Int) (w : World) (hk : w.cell? ⟨bk, 0, none⟩ = some (.int .i64 k)) :
    Calls Try.prog 109 #[.agg #[.int .i64 p.1, .int .u64 (p.2 0), .int .u64 (p.2 1), .int .u64 (p.2 2), .int .u64 (p.2 3), .int .u64 (p.2 4), .int .u64 (p.2 5), .int .u64 (p.2 6), .int .u64 (p.2 7)], .pointer (some ⟨bk, 0, none⟩)] w fun e w' => e = .returned (.bool (isW k p)) ∧ Ext [] w w' := by
  have hb : isW k p = ((p.1 : Int) == k) := by
    unfold isW
    rw [Bool.eq_iff_iff]
    simp
  rw [hb]
  clear hb
  have hlt : bk < w.heap.size := World.block_lt_of_cell? _ _ hk
  generalize (p.1 : Int) = a at *
  generalize p.2 0 = c0 at *
  generalize p.2 1 = c1 at *
  generalize p.2 2 = c2 at *
  generalize p.2 3 = c3 at *
  generalize p.2 4 = c4 at *
  generalize p.2 5 = c5 at *
  generalize p.2 6 = c6 at *
  generalize p.2 7 = c7 at *
  go_enter Try.func109, Try.ntmps109
  go_wp2
  go_ret
  exact ⟨rfl, (Ext.refl _ _).alloc _⟩

/-- what IndexFunc tells -/
def IdxPost (W : List Wt) (k : Int) (w : World) (e : Ending) (w' : World) : Prop :=
  Ext [] w w' ∧ ((e = .returned (.int .i64 (-1)) ∧ ∀ i, i < W.length → isW k (W.getD i wtD) = false) ∨ ∃ i, e = .returned (.int .i64 ((i : Nat) : Int)) ∧ i < W.length ∧ isW k (W.getD i wtD) = true ∧ ∀ j, j < i → isW k (W.getD j wtD) = false)
set_option maxRecDepth 100000 in
set_option maxHeartbeats 1600000 in
theorem pm_index (W : List Wt) (g cap bk : Nat) (k : Int) (w : World) (h : RowB w g 125 cap 9 W.length (wR W)) (h1 : W.length ≤ 1024) (hk : w.cell? ⟨bk, 0, none⟩ = some (.int .i64 k)) :
    Calls Try.prog 124 #[.slice (some ⟨g, 0, none⟩) W.length cap, .func (.func 109) #[] #[.pointer (some ⟨bk, 0, none⟩)]] w (IdxPost W k w) := by
  have HB := Lib.hid (And.intro h hk)
  have hcf := enters_of Try.func109 (by kernel_rfl) rfl
  have hu := Try.underlying125
  have hsz : (Try.prog.info? 125).map (·.size) = some 9 := by kernel_rfl
  have HU := Lib.hid (And.intro hu hsz)
  clear h hk hu hsz
  generalize hm : W.length = m at *
  have HM := Lib.hid hm
  clear hm
  go_enter Try.func124, Try.ntmps124
  go_wp2
  go_loopg [8] m (fun q i wr => ∃ j : Nat, i = .int .i64 j ∧ j + q = m ∧ Ext [] w wr ∧ ∀ t, t < j → isW k (W.getD t wtD) = false)
  case atStart => exact ⟨0, rfl, by omega, Ext.refl _ _, fun t ht => by omega⟩
  case round =>
    obtain ⟨j, rfl, hj, hE, hno⟩ := hrel
    have HE := Lib.hid (And.intro hE hno)
    clear hE hno
    by_cases hlt : j < m
    · have hr := rangeAt_ext (HB.out.1.range hlt) HE.out.1 (by simp)
      obtain ⟨p, hp⟩ : ∃ p, W.getD j wtD = p := ⟨_, rfl⟩
      have hr' : wr.rangeAt g (j * 9) [.int .i64 p.1, .int .u64 (p.2 0), .int .u64 (p.2 1), .int .u64 (p.2 2), .int .u64 (p.2 3), .int .u64 (p.2 4), .int .u64 (p.2 5), .int .u64 (p.2 6), .int .u64 (p.2 7)] := by rw [← hp]; exact hr
      have HR := Lib.hid hr'
      have HP := Lib.hid hp
      have HK := Lib.hid (pm_without1 p bk k wr (HE.out.1.cell HB.out.2 (by simp)))
      have hi0 : (0 : Int) ≤ (j : Int) := by omega
      have hi1 : (j : Int) < (m : Int) := by omega
      have HJ := Lib.hid (And.intro hj hlt)
      clear hr hr' hp hj
      cases hb : isW k p with
      | true =>
        rw [hb] at HK
        have HBB := Lib.hid hb
        clear hb
        go_wp2_with (first
          | (refine wpList_load_mid rfl _ _ rfl g (j * 9) ?_ _ _ HR.out HU.out.1 rfl HU.out.2 ?_; exact rfl)
          | (go_at_call 109; refine HK.out.mono ?_; rintro e w5 ⟨rfl, hE5⟩))
        go_ret
        exact ⟨HE.out.1.trans hE5, .inr ⟨j, rfl, by rw [HM.out]; exact HJ.out.2, by rw [HP.out]; exact HBB.out, HE.out.2⟩⟩
      | false =>
        rw [hb] at HK
        have HBB := Lib.hid hb
        clear hb
        go_wp2_with (first
          | (refine wpList_load_mid rfl _ _ rfl g (j * 9) ?_ _ _ HR.out HU.out.1 rfl HU.out.2 ?_; exact rfl)
          | (go_at_call 109; refine HK.out.mono ?_; rintro e w5 ⟨rfl, hE5⟩))
        have H5 := Lib.hid (HE.out.1.trans hE5)
        go_roundg (m - (j + 1))
        case measure => have := HJ.out.1; omega
        case rel =>
          refine ⟨j + 1, by go_num, by have := HJ.out.1; omega, H5.out, fun t ht => ?_⟩
          by_cases htj : t = j
          · subst htj
            rw [HP.out]
            exact HBB.out
          · exact HE.out.2 t (by omega)
    · have hd : decide (j < m) = false := by simpa using hlt
      have HJ := Lib.hid (And.intro hj hlt)
      clear hj hlt
      go_wp2
      go_ret
      refine ⟨HE.out.1, .inl ⟨rfl, fun i hi => HE.out.2 i ?_⟩⟩
      rw [HM.out] at hi
      have := HJ.out
      omega
end Go.Proofs.Ytfojmjkcjdehaaa
namespace Go.Proofs.Ytfojmjkcjdehaaa
open Go Go.RowKit Go.Shelf
attribute [local go_sem] Oper.semAt_some

theorem wout_eq (W : List Wt) (k : Int) : wout W k = W.filter (fun p => !isW k p) := rfl
theorem wout_step (W : List Wt) (k : Int) (j : Nat) (h : j < W.length) : wout (W.take (j + 1)) k = wout (W.take j) k ++ (if isW k (W.getD j wtD) then [] else [W.getD j wtD]) := by
  rw [wout_eq, wout_eq, List.take_succ_eq_append_getElem h, List.filter_append]
  have : W.getD j wtD = W[j] := by simp [h]
  rw [this]
  cases hb : isW k W[j] <;> simp [hb]
theorem wout_le (W : List Wt) (k : Int) (j : Nat) : (wout (W.take j) k).length ≤ j := by
  rw [wout_eq]
  exact Nat.le_trans (List.length_filter_le _ _) (List.length_take_le _ _)
theorem wout_none {W : List Wt} {k : Int} {j : Nat} (hj : j ≤ W.length) (h : ∀ i, i < j → isW k (W.getD i wtD) = false) : wout (W.take j) k = W.take j := by
  rw [wout_eq, List.filter_eq_self]
  intro p hp
  obtain ⟨i, hi⟩ := List.getElem?_of_mem hp
  have hij : i < j := by
    have := (List.getElem?_eq_some_iff.1 hi).1
    simp at this
    omega
  have := h i hij
  rw [List.getElem?_take, if_pos hij] at hi
  rw [show W.getD i wtD = p from by simp [List.getD, hi]] at this
  simp [this]
theorem wR_take (W : List Wt) (i t : Nat) (h : t < i) : wR (W.take i) t = wR W t := by
  unfold wR
  congr 1
  simp [List.getD, h]
theorem wR_append_lt (A B : List Wt) (t : Nat) (h : t < A.length) : wR (A ++ B) t = wR A t := by
  unfold wR
  congr 1
  simp [List.getD, List.getElem?_append_left h]
theorem wR_append_at (A : List Wt) (p : Wt) : wR (A ++ [p]) A.length = waitR p := by
  unfold wR
  congr 1
  simp [List.getD]

theorem nine {w : World} {b : Nat} {t : TypeId} {f : Nat × Nat} {v0 v1 v2 v3 v4 v5 v6 v7 v8 : Value} (h : w.heap[b]? = some (.cells #[v0, v1, v2, v3, v4, v5, v6, v7, v8] t f)) :
    w.cell? ⟨b, 0, none⟩ = some v0 ∧ w.cell? ⟨b, 1, none⟩ = some v1 ∧ w.cell? ⟨b, 2, none⟩ = some v2 ∧ w.cell? ⟨b, 3, none⟩ = some v3 ∧ w.cell? ⟨b, 4, none⟩ = some v4 ∧ w.cell? ⟨b, 5, none⟩ = some v5 ∧ w.cell? ⟨b, 6, none⟩ = some v6 ∧ w.cell? ⟨b, 7, none⟩ = some v7 ∧ w.cell? ⟨b, 8, none⟩ = some v8 :=
  ⟨cell_of (j := 0) h rfl, cell_of (j := 1) h rfl, cell_of (j := 2) h rfl, cell_of (j := 3) h rfl, cell_of (j := 4) h rfl, cell_of (j := 5) h rfl, cell_of (j := 6) h rfl, cell_of (j := 7) h rfl, cell_of (j := 8) h rfl⟩
def wA (p : Wt) : Array Value := #[Value.int .i64 p.1, .int .u64 (p.2 0), .int .u64 (p.2 1), .int .u64 (p.2 2), .int .u64 (p.2 3), .int .u64 (p.2 4), .int .u64 (p.2 5), .int .u64 (p.2 6), .int .u64 (p.2 7)]
theorem wA_size (p : Wt) : (wA p).size = 9 := rfl
theorem wA_info (p : Wt) : (Try.prog.info? 125).map (·.size) = some (wA p).size := by rw [wA_size]; kernel_rfl
theorem wA_list (p : Wt) : (wA p).toList = waitR p := rfl
theorem waitAll (p : Wt) : (wA p).all (fun v => v.oneCell') = true :=
  all_oneCell_toArray (cs := waitR p) (fun v hv => (wR_ok [p] 1).one 0 (by omega) v hv)
theorem run_clear_rows {P : Program} (w : World) (t e : TypeId) (z : Value) (c : Nat) (ht : P.underlying t = some (.slice e)) (hv : ∀ w, (zeroValue e).run P w = .ok z w) (hz : z.cells.size = c) (hc : 0 < c) (h1 : ∀ v ∈ z.cells.toList, v.oneCell' = true) (g o n cap : Nat) (hn : 0 < n) (hth : w.there g o (n * c)) :
    ∀ ty, (Builtin.clear_ #[t] ty #[.slice (some ⟨g, o, none⟩) n cap]).run P w = .ok (.tuple #[]) (w.setCells g o (Builtin.zeroCells z.cells n).toList) := by
  intro ty
  obtain ⟨n', rfl⟩ : ∃ n', n = n' + 1 := ⟨n - 1, by omega⟩
  have hl : (Builtin.zeroCells z.cells (n' + 1)).toList.length = (n' + 1) * c := by simp [Builtin.zeroCells, hz]
  have hs := run_storeCells_cells (P := P) g o (Builtin.zeroCells z.cells (n' + 1)).toList 0 w (fun j hj => by rw [hl] at hj; simpa using (hth j hj).1) (fun j hj => by rw [hl] at hj; simpa using (hth j hj).2) (fun v hv' => by
    simp only [Builtin.zeroCells, Array.toList_map, List.mem_map] at hv'
    obtain ⟨i, _, rfl⟩ := hv'
    refine h1 _ ?_
    have hlt : i % z.cells.size < z.cells.size := Nat.mod_lt _ (by omega)
    rw [getElem!_pos z.cells (i % z.cells.size) hlt]
    simp)
  simp only [Nat.add_zero] at hs
  simp [Builtin.clear_, run_underlying ht, hv, hs]
theorem RowB.tail {w : World} {g e cap c n q : Nat} {R R' : Nat → List Value} (h : RowB w g e cap c n R) (hR : ∀ i, i < n → (R i).length = c) (hq : q ≤ n) (hRR : ∀ t, t < q → R t = R' t) (vs : List Value) : RowB (w.setCells g (q * c) vs) g e cap c q R' := by
  obtain ⟨h0, cur, h1, h2, h3⟩ := h
  obtain ⟨cur', h4, h5⟩ := setCells_block vs (q * c) h1
  refine ⟨by omega, cur', h4, by rw [h5, h2], fun i hi => ?_⟩
  rw [← hRR i hi]
  refine World.rangeAt_setCells_apart (h3 i (by omega)) g (q * c) vs (.inr (.inl ?_))
  rw [hR i (by omega)]
  have : (i + 1) * c ≤ q * c := Nat.mul_le_mul_right c hi
  rw [Nat.add_mul, Nat.one_mul] at this
  exact this
theorem zeroWait (w : World) : (zeroValue 125).run Try.prog w = .ok (.agg #[.int .i64 0, .int .u64 0, .int .u64 0, .int .u64 0, .int .u64 0, .int .u64 0, .int .u64 0, .int .u64 0, .int .u64 0]) w := by kernel_rfl

/-- what stands at the head of DeleteFunc's loop -/
def DelInv (W : List Wt) (k : Int) (g cap : Nat) (w : World) (q j : Nat) (wr : World) : Prop :=
  q = (wout (W.take j) k).length ∧ q < j ∧ Ext [g] w wr ∧ ∃ R', RowB wr g 125 cap 9 W.length R' ∧ (∀ t, t < W.length → (R' t).length = 9) ∧ (∀ t, t < q → R' t = wR (wout (W.take j) k) t) ∧ ∀ t, j ≤ t → t < W.length → R' t = wR W t
theorem DelInv.start {W : List Wt} {k : Int} {g cap : Nat} {w wr : World} {i : Nat} (hi : i < W.length) (h : RowB wr g 125 cap 9 W.length (wR W)) (hE : Ext [] w wr) (hb : isW k (W.getD i wtD) = true) (hno : ∀ j, j < i → isW k (W.getD j wtD) = false) : DelInv W k g cap w i (i + 1) wr := by
  have hw : wout (W.take (i + 1)) k = W.take i := by
    rw [wout_step W k i hi, hb, if_pos rfl, List.append_nil]
    exact wout_none (by omega) hno
  refine ⟨by rw [hw]; simp; omega, by omega, hE.wide, wR W, h, fun t ht => rfl, fun t ht => ?_, fun t _ _ => rfl⟩
  rw [hw, wR_take W i t ht]
theorem DelInv.skip {W : List Wt} {k : Int} {g cap : Nat} {w wr w' : World} {q j : Nat} (h : DelInv W k g cap w q j wr) (hj : j < W.length) (hb : isW k (W.getD j wtD) = true) (hE : Ext [] wr w') : DelInv W k g cap w q (j + 1) w' := by
  obtain ⟨h1, h2, h3, R', h4, h5, h6, h7⟩ := h
  have hw : wout (W.take (j + 1)) k = wout (W.take j) k := by rw [wout_step W k j hj, hb, if_pos rfl, List.append_nil]
  exact ⟨by rw [hw]; exact h1, by omega, h3.then hE, R', h4.ext hE (by simp), h5, fun t ht => by rw [hw]; exact h6 t ht, fun t ht => h7 t (by omega)⟩
theorem DelInv.move {W : List Wt} {k : Int} {g cap : Nat} {w wr w' : World} {q j : Nat} (h : DelInv W k g cap w q j wr) (hj : j < W.length) (hb : isW k (W.getD j wtD) = false) (hE : Ext [] wr w') : DelInv W k g cap w (q + 1) (j + 1) (w'.setCells g (q * 9) (waitR (W.getD j wtD))) := by
  obtain ⟨h1, h2, h3, R', h4, h5, h6, h7⟩ := h
  have hw : wout (W.take (j + 1)) k = wout (W.take j) k ++ [W.getD j wtD] := by rw [wout_step W k j hj, hb]; rfl
  have h8 := (h4.ext hE (by simp)).set h5 (k := q) (by omega) (vs := waitR (W.getD j wtD)) rfl
  refine ⟨by rw [hw, h1]; simp, by omega, ext_setCells _ _ (h3.then hE) (.inl (by simp)), _, h8, fun t ht => ?_, fun t ht => ?_, fun t ht hm => ?_⟩
  · show (if t = q then waitR (W.getD j wtD) else R' t).length = 9
    split
    · rfl
    · exact h5 t ht
  · show (if t = q then waitR (W.getD j wtD) else R' t) = _
    by_cases htq : t = q
    · rw [if_pos htq, hw, htq, h1, wR_append_at]
    · rw [if_neg htq, hw, wR_append_lt _ _ _ (by omega)]
      exact h6 t (by omega)
  · show (if t = q then waitR (W.getD j wtD) else R' t) = _
    rw [if_neg (by omega)]
    exact h7 t (by omega) hm

set_option maxRecDepth 100000 in
set_option maxHeartbeats 4000000 in
theorem pm_delete (W : List Wt) (g cap bk : Nat) (k : Int) (w : World) (h : RowB w g 125 cap 9 W.length (wR W)) (h1 : W.length ≤ 1024) (hcap : cap ≤ maxLen) (hk : w.cell? ⟨bk, 0, none⟩ = some (.int .i64 k)) (hbk : bk ≠ g) :
    Calls Try.prog 108 #[.slice (some ⟨g, 0, none⟩) W.length cap, .func (.func 109) #[] #[.pointer (some ⟨bk, 0, none⟩)]] w fun e w' =>
      e = .returned (.slice (some ⟨g, 0, none⟩) (wout W k).length cap) ∧ Ext [g] w w' ∧ RowB w' g 125 cap 9 (wout W k).length (wR (wout W k)) := by
  have HI := Lib.hid (pm_index W g cap bk k w h h1 hk)
  have HB := Lib.hid (And.intro h (And.intro hk (And.intro hbk (And.intro hcap h1))))
  have hcf := enters_of Try.func109 (by kernel_rfl) rfl
  have HU : Hid (Try.prog.underlying 125 = _ ∧ (Try.prog.info? 125).map (·.size) = some 9) := ⟨Try.underlying125, by kernel_rfl⟩
  clear h hk hbk hcap h1
  generalize hm : W.length = m at *
  have HM := Lib.hid hm
  clear hm
  go_enter Try.func108, Try.ntmps108
  go_wp2_with fail
  refine HI.out.mono ?_
  rintro e w1 ⟨hE1, (⟨rfl, hno⟩ | ⟨i, rfl, hi, hbi, hno⟩)⟩
  · have HN := Lib.hid (And.intro hE1 hno)
    clear hE1 hno
    go_wp2
    go_ret
    have hw : wout W k = W := by
      have := wout_none (Nat.le_refl W.length) HN.out.2
      rwa [List.take_length] at this
    rw [hw, HM.out]
    exact ⟨rfl, HN.out.1.wide, HB.out.1.ext HN.out.1 (by simp)⟩
  · rw [HM.out] at hi
    have HN := Lib.hid (DelInv.start (cap := cap) (by rw [HM.out]; exact hi) (by rw [HM.out]; exact HB.out.1.ext hE1 (by simp)) hE1 hbi hno)
    have HIM := Lib.hid (And.intro hi HB.out.2.2.2.2)
    have hne : (((i : Nat) : Int) == -1) = false := beq_eq_false_iff_ne.2 (by omega)
    have hii : (i : Int) ≤ 1024 := by have := HB.out.2.2.2.2; omega
    clear hE1 hbi hno hi
    go_wp2
    go_loopg [5, 6] (m - (i + 1)) (fun cnt s5 s6 wr => ∃ q j : Nat, s5 = .int .i64 q ∧ s6 = .int .i64 j ∧ j + cnt = m ∧ DelInv W k g cap w q j wr)
    case atStart => exact ⟨i, i + 1, rfl, by go_num, by have := HIM.out.1; omega, HN.out⟩
    case round =>
      clear HN hne hii
      obtain ⟨q, j, rfl, rfl, hj, hI⟩ := hrel
      have HV := Lib.hid hI
      have hq1 : (q : Int) < (j : Int) := by have := hI.2.1; omega
      have hj1 : (j : Int) ≤ 1024 := by have := HIM.out.2; omega
      by_cases hlt : j < m
      · obtain ⟨p, hp⟩ : ∃ p, W.getD j wtD = p := ⟨_, rfl⟩
        have hr' : wr.rangeAt g (j * 9) [.int .i64 p.1, .int .u64 (p.2 0), .int .u64 (p.2 1), .int .u64 (p.2 2), .int .u64 (p.2 3), .int .u64 (p.2 4), .int .u64 (p.2 5), .int .u64 (p.2 6), .int .u64 (p.2 7)] := by
          obtain ⟨_, _, _, R', h4, _, _, h7⟩ := hI
          have := h4.range (i := j) (by rw [HM.out]; exact hlt)
          rw [h7 j (Nat.le_refl _) (by rw [HM.out]; exact hlt)] at this
          rw [← hp]
          exact this
        have HR := Lib.hid hr'
        have HP := Lib.hid hp
        have hgl : g < wr.heap.size := by obtain ⟨_, _, _, R', h4, _⟩ := hI; exact h4.lt
        have hbl : wr.cell? ⟨bk, 0, none⟩ = some (.int .i64 k) := hI.2.2.1.cell HB.out.2.1 (by simpa using HB.out.2.2.1)
        have HK := Lib.hid (fun W' (hE : Ext [] wr W') => pm_without1 p bk k W' (hE.cell hbl (by simp)))
        have hi0 : (0 : Int) ≤ (j : Int) := by omega
        have hi1 : (j : Int) < (m : Int) := by omega
        have hth : ∀ W', Ext [] wr W' → W'.there g (q * 9) (wA p).size := by
          rw [wA_size]
          intro W' hE
          obtain ⟨_, h2, _, R', h4, _⟩ := hI
          exact (h4.ext hE (by simp)).there (i := q) (by have := h4.1; rw [HM.out] at this; omega)
        have HTH := Lib.hid hth
        have HJ := Lib.hid (And.intro hj hlt)
        have hi2 : (0 : Int) ≤ (q : Int) := by omega
        have hi3 : (q : Int) < (m : Int) := by omega
        clear hI hr' hp hj hbl hth
        cases hb : isW k p with
        | true =>
          rw [hb] at HK
          have HBB := Lib.hid hb
          clear hb
          have tok1 : True := trivial
          go_wp2_with (first
            | (have _t := tok1; refine wpList_load_mid rfl _ _ rfl g (j * 9) ?_ _ _ HR.out HU.out.1 rfl HU.out.2 ?_; exact rfl; clear tok1)
            | (go_at_call 109; refine (HK.out _ ((Ext.refl [] wr).alloc _)).mono ?_; rintro e w5 ⟨rfl, hE5⟩))
          have H5 := Lib.hid (((Ext.refl [] wr).alloc _).trans hE5)
          clear hE5
          go_roundg (m - (j + 1))
          case measure => have := HJ.out.1; omega
          case rel => exact ⟨q, j + 1, rfl, by go_num, by have := HJ.out; omega, HV.out.skip (by rw [HM.out]; exact HJ.out.2) (by rw [HP.out]; exact HBB.out) H5.out⟩
        | false =>
          rw [hb] at HK
          have HBB := Lib.hid hb
          clear hb
          have tok1 : True := trivial
          go_wp2_with (first
            | (have _t := tok1; refine wpList_load_mid rfl _ _ rfl g (j * 9) ?_ _ _ HR.out HU.out.1 rfl HU.out.2 ?_; exact rfl; clear tok1)
            | (go_at_call 109; refine (HK.out _ ((Ext.refl [] wr).alloc _)).mono ?_; rintro e w5 ⟨rfl, hE5⟩; obtain ⟨c0, c1, c2, c3, c4, c5, c6, c7, c8⟩ := nine (hE5.at (World.alloc_heap_new wr _) (by simp)); have H5 := Lib.hid (((Ext.refl [] wr).alloc _).trans hE5); have HT5 := Lib.hid (HTH.out _ H5.out); have tok2 : True := trivial; clear hE5)
            | (have _t := tok2; refine wpList_store_mid rfl _ _ _ rfl g (q * 9) (wA p) ?_ ?_ ?_ (wA_info p) (waitAll p) ?_; exact rfl; exact rfl; exact HT5.out; rw [wA_list]))
          go_roundg (m - (j + 1))
          case measure => have := HJ.out.1; omega
          case rel =>
            refine ⟨q + 1, j + 1, by go_num, by go_num, by have := HJ.out; omega, ?_⟩
            have := HV.out.move (by rw [HM.out]; exact HJ.out.2) (by rw [HP.out]; exact HBB.out) H5.out
            rw [HP.out] at this
            exact this
      · have hd : decide (j < m) = false := by simpa using hlt
        have HJ := Lib.hid (And.intro hj hlt)
        have hq2 : q < m := by
          have := hI.1
          have := hI.2.1
          omega
        have hmc : m ≤ cap := HB.out.1.1
        have hi0 : (0 : Int) ≤ (q : Int) := by omega
        have hi1 : (q : Int) ≤ (m : Int) := by omega
        have hi2 : (m : Int) ≤ (cap : Int) := by omega
        have hi3 : (q : Int) ≤ (cap : Int) := by omega
        have hclr := run_clear_rows (P := Try.prog) wr 57 125 _ 9 Try.underlying57 zeroWait rfl (by omega) (by simp [Value.cells, Value.oneCell']) g (q * 9) (m - q) (cap - q) (by omega) (by
          obtain ⟨_, h2, _, R', h4, _⟩ := hI
          obtain ⟨h0, cur, g1, g2, _⟩ := h4
          intro x hx
          have hlt : q * 9 + x < cur.size := by rw [g2]; omega
          exact ⟨by rw [cell_of g1 (v := cur[q * 9 + x]) (by simp [hlt])]; rfl, free_of g1 _⟩)
        generalize (Builtin.zeroCells _ (m - q)).toList = zs at hclr
        obtain ⟨W9, hW9⟩ : ∃ W9, wr.setCells g (q * 9) zs = W9 := ⟨_, rfl⟩
        rw [hW9] at hclr
        have HX := Lib.hid hW9
        clear hI hj hlt hW9
        go_wp2
        go_ret
        obtain ⟨h1, h2, h3, R', h4, h5, h6, _⟩ := HV.out
        have hjm : W.take j = W := List.take_of_length_le (by have := HJ.out; have := HM.out; omega)
        rw [hjm] at h1 h6
        rw [← h1, ← HX.out]
        exact ⟨rfl, ext_setCells _ _ h3 (.inl (by simp)), h4.tail h5 (by have := HM.out; omega) h6 zs⟩

set_option maxRecDepth 100000 in
set_option maxHeartbeats 800000 in
theorem pm_deleteN (F : Value) (w : World) :
    Calls Try.prog 108 #[.slice none 0 0, F] w fun e w' => e = .returned (.slice none 0 0) ∧ w = w' := by
  have hI : Hid (∀ w, Calls Try.prog 124 #[.slice none 0 0, F] w fun e w' => e = .returned (.int .i64 (-1)) ∧ w = w') := by
    intro w
    go_enter Try.func124, Try.ntmps124
    go_wp2
    refine wp_loop_rounds 1 ?_
    rw [rounds_succ]
    go_wp2
    go_ret
    exact ⟨rfl, rfl⟩
  go_enter Try.func108, Try.ntmps108
  go_wp2_with fail
  refine (hI.out _).mono ?_
  rintro e w' ⟨rfl, rfl⟩
  go_wp2
  go_ret
  exact ⟨rfl, rfl⟩

set_option maxRecDepth 100000 in
set_option maxHeartbeats 800000 in
theorem pm_without (d lb sb : Nat) (k : Int) (D : Dv) (w : World) (hD : DevAt w d lb sb D) (hn : DvOk D) :
    Calls Try.prog 70 #[.pointer (some ⟨d, 0, none⟩), .int .i64 k] w fun e w' => ∃ v', e = .returned v' ∧ Ext [] w w' ∧ w'.ownsRow w.heap.size 125 9 v' (wout D.W k).length (rowC (wR (wout D.W k)) (wout D.W k).length) := by
  obtain ⟨W0, hw0⟩ : ∃ W0, w.alloc (.cells #[.int .i64 k] 3) = W0 := ⟨_, rfl⟩
  have hE0 : Ext [] w W0 := by rw [← hw0]; exact (Ext.refl _ _).alloc _
  have hb : W0.heap[w.heap.size]? = some (.cells #[.int .i64 k] 3 (0, 0)) := by rw [← hw0]; exact World.alloc_heap_new _ _
  have hlen := hn.len
  have hn1 := hn.n1
  obtain ⟨⟨cl, cs, wv, h1, hwv⟩, hrest⟩ := hD.ext0 hE0
  have k1 := cell_of (j := 2) (v := wv) h1 rfl
  have HC := Lib.hid (pm_cloneW wv D.W W0 hwv (by omega))
  have HB := Lib.hid (And.intro hb (And.intro hE0 (And.intro hlen hn1)))
  have hlt : w.heap.size < W0.heap.size := lt_of_block hb
  clear hwv hrest h1 hb hE0 hlen hn1 hD hn
  go_enter Try.func70, Try.ntmps70
  go_wp2_with fail
  refine HC.out.mono ?_
  rintro e w1 ⟨v1, rfl, hE1, ho1⟩
  rcases owns_form ho1 with ⟨rfl, hl, hx⟩ | ⟨g, cap, rfl, hg, _⟩
  · have HX := Lib.hid (And.intro (HB.out.2.1.trans hE1) (And.intro hl hx))
    clear hE1 ho1 hl hx hw0 k1 hlt
    go_wp2_with fail
    refine (pm_deleteN _ _).mono ?_
    rintro e w' ⟨rfl, rfl⟩
    go_wp2
    go_ret
    have hW : D.W = [] := List.eq_nil_of_length_eq_zero HX.out.2.1
    refine ⟨_, rfl, HX.out.1, ?_⟩
    rw [hW]
    exact World.ownsRow_nil _ _ _ _
  · obtain ⟨hrow, _, hcm⟩ := RowB.of_owns (wR_ok D.W D.W.length) ho1
    have HX := Lib.hid (And.intro (HB.out.2.1.trans hE1) (And.intro hrow (And.intro hcm hg)))
    have hkb := cell_of (j := 0) (v := .int .i64 k) (hE1.at HB.out.1 (by simp)) rfl
    have HK := Lib.hid (And.intro hkb hlt)
    clear hE1 ho1 hrow hcm hg hw0 k1 hkb hlt
    go_wp2_with fail
    refine (pm_delete D.W g cap w.heap.size k w1 HX.out.2.1 (by have := HB.out.2.2; omega) HX.out.2.2.1 HK.out.1 (by have := HX.out.2.2.2; have := HK.out.2; omega)).mono ?_
    rintro e w2 ⟨rfl, hE2, hr2⟩
    have H2 := Lib.hid (And.intro hE2 hr2)
    clear hE2 hr2
    go_wp2
    go_ret
    have hg := HX.out.2.2.2
    have hlt := HK.out.2
    exact ⟨_, rfl, HX.out.1.trans' H2.out.1 (fun j hj => .inr (by simp at hj; omega)), H2.out.2.owns (wR_ok _ _) HX.out.2.2.1 (by omega)⟩
end Go.Proofs.Ytfojmjkcjdehaaa
namespace Go.Proofs.Ytfojmjkcjdehaaa
open Go Go.RowKit Go.Shelf
attribute [local go_sem] Oper.semAt_some

/-- eight words as cells -/
def lw (G : Wd) : List Value := [.int .u64 (G 0), .int .u64 (G 1), .int .u64 (G 2), .int .u64 (G 3), .int .u64 (G 4), .int .u64 (G 5), .int .u64 (G 6), .int .u64 (G 7)]
theorem lnR_lw (F : Wd) (k : Nat) : lnR F k = lw (lineOf F k) := rfl
theorem lw_get (G : Wd) (j : Nat) (hj : j < 8) : (lw G)[j]? = some (.int .u64 (G j)) := by
  match j, hj with
  | 0, _ | 1, _ | 2, _ | 3, _ | 4, _ | 5, _ | 6, _ | 7, _ => rfl
theorem lw_len (G : Wd) : (lw G).length = 8 := rfl
theorem lw_one (G : Wd) : ∀ u ∈ lw G, u.oneCell' = true := fun u hu => by simp [lw] at hu; rcases hu with rfl | rfl | rfl | rfl | rfl | rfl | rfl | rfl <;> rfl
theorem lw_info (G : Wd) : (Try.prog.info? 122).map (·.size) = some (lw G).length := by rw [lw_len]; kernel_rfl
def lwA (G : Wd) : Array Value := #[.int .u64 (G 0), .int .u64 (G 1), .int .u64 (G 2), .int .u64 (G 3), .int .u64 (G 4), .int .u64 (G 5), .int .u64 (G 6), .int .u64 (G 7)]
theorem lwA_size (G : Wd) : (lwA G).size = 8 := rfl
theorem lwA_list (G : Wd) : (lwA G).toList = lw G := rfl
theorem lwA_info (G : Wd) : (Try.prog.info? 122).map (·.size) = some (lwA G).size := by rw [lwA_size]; kernel_rfl
theorem lwA_all (G : Wd) : (lwA G).all (fun v => v.oneCell') = true := all_oneCell_toArray (cs := lw G) (lw_one G)
theorem LinesB.there {w : World} {b n : Nat} {F : Wd} (h : LinesB w b n F) {k : Nat} (hk : k < n) : w.there b (k * 8) 8 := by
  intro j hj
  rw [show k * 8 + j = 8 * k + j from by omega]
  exact ⟨by rw [h.cell (i := 8 * k + j) (by omega)]; rfl, h.free _⟩
theorem LinesB.setLine {w : World} {b n : Nat} {F : Wd} (h : LinesB w b n F) {k : Nat} (hk : k < n) (G : Wd) : LinesB (w.setCells b (k * 8) (lw G)) b n (setLn F k G) := by
  have hth := h.there hk
  obtain ⟨cur, h1, h2⟩ := h
  obtain ⟨cur', h3, h4⟩ := setCells_block (lw G) (k * 8) h1
  refine ⟨cur', h3, fun i hi => ?_⟩
  have hc : (w.setCells b (k * 8) (lw G)).cell? ⟨b, i, none⟩ = cur'[i]? := by simp [World.cell?, h3]
  rw [← hc]
  unfold setLn
  by_cases hik : i / 8 = k
  · rw [if_pos hik]
    have := World.rangeAt_setCells_same w b (k * 8) (lw G) (by rw [lw_len]; exact hth) (i % 8) _ (lw_get G (i % 8) (by omega))
    rwa [show k * 8 + i % 8 = i from by omega] at this
  · rw [if_neg hik, World.cell?_setCells_out b (lw G) (k * 8) w ⟨b, i, none⟩ (fun _ _ => by rw [lw_len]; show i < k * 8 ∨ k * 8 + 8 ≤ i; omega)]
    simp [World.cell?, h1, h2 i hi]
theorem LinesB.eight {w : World} {b n : Nat} {F : Wd} (h : LinesB w b n F) {k : Nat} (hk : k < n) :
    w.cell? ⟨b, k * 8, none⟩ = some (.int .u64 (F (8 * k))) ∧ w.cell? ⟨b, k * 8 + 1, none⟩ = some (.int .u64 (F (8 * k + 1))) ∧ w.cell? ⟨b, k * 8 + 2, none⟩ = some (.int .u64 (F (8 * k + 2))) ∧ w.cell? ⟨b, k * 8 + 3, none⟩ = some (.int .u64 (F (8 * k + 3))) ∧
    w.cell? ⟨b, k * 8 + 4, none⟩ = some (.int .u64 (F (8 * k + 4))) ∧ w.cell? ⟨b, k * 8 + 5, none⟩ = some (.int .u64 (F (8 * k + 5))) ∧ w.cell? ⟨b, k * 8 + 6, none⟩ = some (.int .u64 (F (8 * k + 6))) ∧ w.cell? ⟨b, k * 8 + 7, none⟩ = some (.int .u64 (F (8 * k + 7))) := by
  have key : ∀ j, j < 8 → w.cell? ⟨b, k * 8 + j, none⟩ = some (.int .u64 (F (8 * k + j))) := fun j hj => by
    rw [show k * 8 + j = 8 * k + j from by omega]
    exact h.cell (by omega)
  exact ⟨key 0 (by omega), key 1 (by omega), key 2 (by omega), key 3 (by omega), key 4 (by omega), key 5 (by omega), key 6 (by omega), key 7 (by omega)⟩
/-- what waits is something else -/
theorem DevAt.waits {w : World} {d lb sb : Nat} {D : Dv} (h : DevAt w d lb sb D) {v : Value} {W' : List Wt} (hv : WaitsV w v W') : DevAt (w.setCell ⟨d, 2, none⟩ v) d lb sb { D with W := W' } := by
  have hne := h.ne
  have hnw := h.noW
  have hE : Ext [d] w (w.setCell ⟨d, 2, none⟩ v) := (Ext.refl [d] w).setCell (.inl (by simp)) _
  obtain ⟨⟨cl, cs, wv, h1, h5⟩, h2, h3, h4⟩ := h
  refine ⟨⟨cl, cs, v, ?_, hv.ext hE (fun g cur hg hm => hnw g cur hg (by simp at hm; simp [hm]))⟩, h2.ext hE (by simp [Ne.symm hne.1]), h3.ext hE (by simp [Ne.symm hne.2.1]), h4⟩
  simp only [World.setCell, Array.getElem?_modify, if_true, h1]; rfl
/-- a line that stays is something else -/
theorem DevAt.stay {w : World} {d lb sb : Nat} {D : Dv} (h : DevAt w d lb sb D) {k : Nat} (hk : k < D.n) (G : Wd) : DevAt (w.setCells sb (k * 8) (lw G)) d lb sb { D with S := setLn D.S k G } := by
  have hne := h.ne
  have hnw := h.noW
  have hE : Ext [sb] w (w.setCells sb (k * 8) (lw G)) := ext_setCells _ _ (Ext.refl [sb] w) (.inl (by simp))
  obtain ⟨⟨cl, cs, wv, h1, h5⟩, h2, h3, h4⟩ := h
  exact ⟨⟨cl, cs, wv, hE.at h1 (by simp [hne.2.1]), h5.ext hE (fun g cur hg hm => hnw g cur hg (by simp at hm; simp [hm]))⟩, h2.ext hE (by simp [h4]), h3.setLine hk G, h4⟩
theorem rowC_snoc (A : List Wt) (p : Wt) : rowC (wR (A ++ [p])) (A.length + 1) = rowC (wR A) A.length ++ waitR p := by
  rw [rowC, wR_append_at, rowC_congr (R' := wR A) (fun i hi => wR_append_lt A [p] i hi)]
theorem flush_eq (D : Dv) (a : Nat) (ha : a < D.n) : (D.flush (a : Int)).1 = { D with W := wout D.W (a : Int) ++ [(a, lineOf D.L a)] } := by
  unfold Dv.flush
  rw [if_pos (by unfold Dv.line; simp; omega)]
  simp
theorem evict_eq (D : Dv) (a : Nat) (ha : a < D.n) : (D.evict (a : Int)).1 = { D with S := setLn D.S a (lineOf D.L a), W := wout D.W (a : Int) } := by
  unfold Dv.evict
  rw [if_pos (by unfold Dv.line; simp; omega)]
  simp

set_option maxRecDepth 100000 in
set_option maxHeartbeats 2000000 in
theorem pm_evict1 (b1 b2 d lb sb a : Nat) (D : Dv) (w : World) (hD : DevAt w d lb sb D) (hn : DvOk D) (hO : Own2 w b1 b2 (.pointer (some ⟨d, 0, none⟩)) (a : Int)) (ha : a < D.n) :
    Calls Try.prog 84 #[.pointer (some ⟨b1, 0, none⟩), .pointer (some ⟨b2, 0, none⟩)] w fun e w' => e = .returned (.int .i64 (a : Int)) ∧ DevPost [d, sb] w d lb sb (D.evict a).1 w' := by
  rw [evict_eq D a ha]
  have HD := Lib.hid (And.intro hD (And.intro hO (And.intro hn ha)))
  have hdl := hD.lt
  obtain ⟨⟨cl, cs, wv, h1, hwv⟩, hrest⟩ := hD
  have kd2 := cell_of (j := 2) (v := wv) h1 rfl
  have fd2 := free_of h1 2
  have k1 := cell_of (j := 0) (v := .pointer (some ⟨d, 0, none⟩)) hO.1 rfl
  have k2 := cell_of (j := 0) (v := .int .i64 (a : Int)) hO.2 rfl
  have hb1 : b1 ≠ d := by rintro rfl; have := hO.1; rw [h1] at this; simp at this
  have hb2 : b2 ≠ d := by rintro rfl; have := hO.2; rw [h1] at this; simp at this
  have hdlt := hdl.1
  have HW := Lib.hid (fun W (hE : Ext [] w W) => pm_without d lb sb (a : Int) D W (HD.out.1.ext0 hE) HD.out.2.2.1)
  clear hwv hrest h1 hO ha hn hdl
  go_enter Try.func84, Try.ntmps84
  go_wp2
  go_region_held3 (fun w' => w'.cell? ⟨b1, 0, none⟩ = some (.pointer (some ⟨d, 0, none⟩)) ∧ w'.cell? ⟨b2, 0, none⟩ = some (.int .i64 (a : Int)))
    (first
      | (go_keep; done)
      | exact ⟨hX1.cell k1 (by simp), hX1.cell k2 (by simp)⟩
      | (have hEs := (Ext.refl [d] w1).setCell (p := ⟨d, 2, none⟩) (.inl (by simp)) (.slice ao1 (wout D.W (a : Int)).length cap1)
         exact ⟨hEs.cell (hX1.cell k1 (by simp)) (by simp [hb1]), hEs.cell (hX1.cell k2 (by simp)) (by simp [hb2])⟩))
    ((go_at_call 70; refine (HW.out _ (Ext.refl [] w).drew).mono ?_; rintro e w1 ⟨v1, rfl, hE1, ho1⟩; obtain ⟨ao1, cap1, rfl⟩ := slice_of_owns ho1; have hX1 : Ext [] w w1 := (Ext.refl [] w).drew.trans hE1; have ho := Lib.hid ho1; have q2 := hX1.cell kd2 (by simp); have g2 := hX1.frozen fd2 hdlt (by simp); clear ho1))
  go_wp2
  have hD2 := (HD.out.1.ext0 hX1).waits (W' := wout D.W (a : Int)) (owns_base ho.out (Nat.zero_le _))
  obtain ⟨v1, hv1⟩ : ∃ v1, (.slice ao1 (wout D.W (a : Int)).length cap1 : Value) = v1 := ⟨_, rfl⟩
  rw [hv1] at hD2 ⊢
  have hE2 : Ext [d] w1 (w1.setCell ⟨d, 2, none⟩ v1) := (Ext.refl [d] w1).setCell (.inl (by simp)) _
  have hO2 : Own2 (w1.setCell ⟨d, 2, none⟩ v1) b1 b2 (.pointer (some ⟨d, 0, none⟩)) (a : Int) := (HD.out.2.1.ext hX1 (by simp) (by simp)).ext hE2 (by simp [hb1]) (by simp [hb2])
  obtain ⟨w2, hw2⟩ : ∃ w2, w1.setCell ⟨d, 2, none⟩ v1 = w2 := ⟨_, rfl⟩
  rw [hw2] at hD2 hE2 hO2 ⊢
  have H2 := Lib.hid (And.intro hD2 (hX1.wide.trans hE2))
  clear hw2 hE2 k1 k2 kd2 fd2 hE1 hX1
  obtain ⟨⟨cl2, cs2, wv2, h12, hwv2⟩, hl2, hs2, _⟩ := hD2
  have k0 := cell_of (j := 0) (v := .slice (some ⟨lb, 0, none⟩) D.n cl2) h12 rfl
  have k3 := cell_of (j := 1) (v := .slice (some ⟨sb, 0, none⟩) D.n cs2) h12 rfl
  have k1 := cell_of (j := 0) (v := .pointer (some ⟨d, 0, none⟩)) hO2.1 rfl
  have k2 := cell_of (j := 0) (v := .int .i64 (a : Int)) hO2.2 rfl
  obtain ⟨x0, x1, x2, x3, x4, x5, x6, x7⟩ := hl2.eight HD.out.2.2.2
  have hth : w2.there sb (a * 8) 8 := hs2.there HD.out.2.2.2
  have HTH := Lib.hid hth
  have hi0 : (0 : Int) ≤ (a : Int) := by omega
  have hi1 : (a : Int) < (D.n : Int) := by have := HD.out.2.2.2; omega
  clear hwv2 hl2 hs2 h12 hO2 hth
  go_still_tail 13, (by kernel_rfl)
  change wpList _ _ _ _ _ w2.drew
  refine wpList_store_mid rfl _ _ _ rfl sb (a * 8) (lwA (lineOf D.L a)) ?_ ?_ ?_ (lwA_info _) (lwA_all _) ?_
  · rfl
  · rfl
  · exact HTH.out
  rw [lwA_list]
  have hE3 : Ext [sb] w2 (w2.drew.setCells sb (a * 8) (lw (lineOf D.L a))) := ext_setCells _ _ (Ext.refl [sb] w2).drew (.inl (by simp))
  have hD3 := (H2.out.1.ext0 (Ext.refl [] w2).drew).stay (k := a) HD.out.2.2.2 (lineOf D.L a)
  have hne := HD.out.1.ne
  have k9 := hE3.cell k2 (by
    have := HD.out.2.1.2
    obtain ⟨cur, hc, _⟩ := HD.out.1.2.2.1
    intro hm
    simp at hm
    subst hm
    rw [hc] at this
    simp at this)
  obtain ⟨w3, hw3⟩ : ∃ w3, w2.drew.setCells sb (a * 8) (lw (lineOf D.L a)) = w3 := ⟨_, rfl⟩
  rw [hw3] at hE3 hD3 k9 ⊢
  have H3 := Lib.hid (And.intro hD3 (Ext.trans (m := [d, sb]) (H2.out.2.sub (fun j hj => by simp at hj; simp [hj])) (hE3.sub (fun j hj => by simp at hj; simp [hj]))))
  clear hE3 hD3 hne hw3 k0 k1 k2 k3 x0 x1 x2 x3 x4 x5 x6 x7 hi0 hi1
  go_wp2
  go_ret
  exact ⟨rfl, H3.out⟩
end Go.Proofs.Ytfojmjkcjdehaaa
namespace Go.Proofs.Ytfojmjkcjdehaaa
open Go Go.RowKit Go.Shelf
attribute [local go_sem] Oper.semAt_some

theorem cell_setO {w : World} {p q : Addr} {v u : Value} (h : w.cell? p = some v) (hne : q ≠ p) : (w.setCell q u).cell? p = some v := by
  rw [World.cell?_setCell_other w _ _ _ hne]
  exact h

set_option maxRecDepth 100000 in
set_option maxHeartbeats 2000000 in
theorem pm_flush1 (b1 b2 d lb sb a : Nat) (D : Dv) (w : World) (hD : DevAt w d lb sb D) (hn : DvOk D) (hO : Own2 w b1 b2 (.pointer (some ⟨d, 0, none⟩)) (a : Int)) (ha : a < D.n) :
    Calls Try.prog 69 #[.pointer (some ⟨b1, 0, none⟩), .pointer (some ⟨b2, 0, none⟩)] w fun e w' => e = .returned (.int .i64 (a : Int)) ∧ DevPost [d] w d lb sb (D.flush a).1 w' := by
  rw [flush_eq D a ha]
  obtain ⟨i0, hi, hz0, hz1, hz2⟩ := info_parts infoWait
  have hI1 := Lib.hid hi
  have hI2 := Lib.hid hz0
  have hI3 := Lib.hid hz1
  have hI4 := Lib.hid hz2
  clear hi hz0 hz1 hz2
  have HD := Lib.hid (And.intro hD (And.intro hO (And.intro hn ha)))
  have hdl := hD.lt
  have hne := hD.ne
  have hlen := hn.len
  have hn1 := hn.n1
  obtain ⟨⟨cl, cs, wv, h1, hwv⟩, hl, hrest⟩ := hD
  have k0 := cell_of (j := 0) (v := .slice (some ⟨lb, 0, none⟩) D.n cl) h1 rfl
  have kd2 := cell_of (j := 2) (v := wv) h1 rfl
  have fd2 := free_of h1 2
  have k1 := cell_of (j := 0) (v := .pointer (some ⟨d, 0, none⟩)) hO.1 rfl
  have k2 := cell_of (j := 0) (v := .int .i64 (a : Int)) hO.2 rfl
  have hb1 : b1 ≠ d := by rintro rfl; have := hO.1; rw [h1] at this; simp at this
  have hb2 : b2 ≠ d := by rintro rfl; have := hO.2; rw [h1] at this; simp at this
  have hdlt := hdl.1
  have HW := Lib.hid (fun W (hE : Ext [] w W) => pm_without d lb sb (a : Int) D W (HD.out.1.ext0 hE) HD.out.2.2.1)
  obtain ⟨x0, x1, x2, x3, x4, x5, x6, x7⟩ := hl.eight ha
  have hi0 : (0 : Int) ≤ (a : Int) := by omega
  have hi1 : (a : Int) < (D.n : Int) := by omega
  have HL : Hid (∀ k, (wout D.W k).length ≤ 1024) := fun k => by
    have := wout_le D.W k D.W.length
    rw [List.take_length] at this
    omega
  have HS : Hid (∀ W, Ext [] w W → W.cell? ⟨d, 0, none⟩ = some (.slice (some ⟨lb, 0, none⟩) D.n cl) ∧ W.cell? ⟨b1, 0, none⟩ = some (.pointer (some ⟨d, 0, none⟩)) ∧ W.cell? ⟨b2, 0, none⟩ = some (.int .i64 (a : Int)) ∧
      W.cell? ⟨lb, a * 8, none⟩ = some (.int .u64 (D.L (8 * a))) ∧ W.cell? ⟨lb, a * 8 + 1, none⟩ = some (.int .u64 (D.L (8 * a + 1))) ∧ W.cell? ⟨lb, a * 8 + 2, none⟩ = some (.int .u64 (D.L (8 * a + 2))) ∧ W.cell? ⟨lb, a * 8 + 3, none⟩ = some (.int .u64 (D.L (8 * a + 3))) ∧
      W.cell? ⟨lb, a * 8 + 4, none⟩ = some (.int .u64 (D.L (8 * a + 4))) ∧ W.cell? ⟨lb, a * 8 + 5, none⟩ = some (.int .u64 (D.L (8 * a + 5))) ∧ W.cell? ⟨lb, a * 8 + 6, none⟩ = some (.int .u64 (D.L (8 * a + 6))) ∧ W.cell? ⟨lb, a * 8 + 7, none⟩ = some (.int .u64 (D.L (8 * a + 7)))) := by
    intro W hE
    exact ⟨hE.cell k0 (by simp), hE.cell k1 (by simp), hE.cell k2 (by simp), hE.cell x0 (by simp), hE.cell x1 (by simp), hE.cell x2 (by simp), hE.cell x3 (by simp), hE.cell x4 (by simp), hE.cell x5 (by simp), hE.cell x6 (by simp), hE.cell x7 (by simp)⟩
  have HSS : Hid (∀ W u, Ext [] w W → (W.setCell ⟨d, 2, none⟩ u).cell? ⟨d, 0, none⟩ = some (.slice (some ⟨lb, 0, none⟩) D.n cl) ∧ (W.setCell ⟨d, 2, none⟩ u).cell? ⟨b1, 0, none⟩ = some (.pointer (some ⟨d, 0, none⟩)) ∧ (W.setCell ⟨d, 2, none⟩ u).cell? ⟨b2, 0, none⟩ = some (.int .i64 (a : Int)) ∧
      (W.setCell ⟨d, 2, none⟩ u).cell? ⟨lb, a * 8, none⟩ = some (.int .u64 (D.L (8 * a))) ∧ (W.setCell ⟨d, 2, none⟩ u).cell? ⟨lb, a * 8 + 1, none⟩ = some (.int .u64 (D.L (8 * a + 1))) ∧ (W.setCell ⟨d, 2, none⟩ u).cell? ⟨lb, a * 8 + 2, none⟩ = some (.int .u64 (D.L (8 * a + 2))) ∧ (W.setCell ⟨d, 2, none⟩ u).cell? ⟨lb, a * 8 + 3, none⟩ = some (.int .u64 (D.L (8 * a + 3))) ∧
      (W.setCell ⟨d, 2, none⟩ u).cell? ⟨lb, a * 8 + 4, none⟩ = some (.int .u64 (D.L (8 * a + 4))) ∧ (W.setCell ⟨d, 2, none⟩ u).cell? ⟨lb, a * 8 + 5, none⟩ = some (.int .u64 (D.L (8 * a + 5))) ∧ (W.setCell ⟨d, 2, none⟩ u).cell? ⟨lb, a * 8 + 6, none⟩ = some (.int .u64 (D.L (8 * a + 6))) ∧ (W.setCell ⟨d, 2, none⟩ u).cell? ⟨lb, a * 8 + 7, none⟩ = some (.int .u64 (D.L (8 * a + 7)))) := by
    intro W u hE
    obtain ⟨g0, g1, g2, g3, g4, g5, g6, g7, g8, g9, g10⟩ := HS.out W hE
    exact ⟨cell_setO g0 (by simp), cell_setO g1 (by simp), cell_setO g2 (by simp), cell_setO g3 (by simp), cell_setO g4 (by simp), cell_setO g5 (by simp), cell_setO g6 (by simp), cell_setO g7 (by simp), cell_setO g8 (by simp), cell_setO g9 (by simp), cell_setO g10 (by simp)⟩
  clear hwv hrest hl h1 hO ha hn hdl hne hb1 hb2 hlen hn1
  go_enter Try.func69, Try.ntmps69
  go_wp2
  go_region_held3 (fun w' => w'.cell? ⟨d, 0, none⟩ = some (.slice (some ⟨lb, 0, none⟩) D.n cl) ∧ w'.cell? ⟨b1, 0, none⟩ = some (.pointer (some ⟨d, 0, none⟩)) ∧ w'.cell? ⟨b2, 0, none⟩ = some (.int .i64 (a : Int)) ∧
      w'.cell? ⟨lb, a * 8, none⟩ = some (.int .u64 (D.L (8 * a))) ∧ w'.cell? ⟨lb, a * 8 + 1, none⟩ = some (.int .u64 (D.L (8 * a + 1))) ∧ w'.cell? ⟨lb, a * 8 + 2, none⟩ = some (.int .u64 (D.L (8 * a + 2))) ∧ w'.cell? ⟨lb, a * 8 + 3, none⟩ = some (.int .u64 (D.L (8 * a + 3))) ∧
      w'.cell? ⟨lb, a * 8 + 4, none⟩ = some (.int .u64 (D.L (8 * a + 4))) ∧ w'.cell? ⟨lb, a * 8 + 5, none⟩ = some (.int .u64 (D.L (8 * a + 5))) ∧ w'.cell? ⟨lb, a * 8 + 6, none⟩ = some (.int .u64 (D.L (8 * a + 6))) ∧ w'.cell? ⟨lb, a * 8 + 7, none⟩ = some (.int .u64 (D.L (8 * a + 7))))
    (first
      | exact HS.out _ (Ext.refl [] w).drew
      | exact HS.out _ hX1
      | exact HS.out _ (hX1.alloc _)
      | exact HS.out _ ((Ext.refl [] w).drew.alloc _)
      | exact HS.out _ ((Ext.refl [] w).alloc _).drew
      | exact HS.out _ hX5
      | exact HSS.out _ _ hX5)
    ((first
      | (go_at_call 70; refine (HW.out _ ?_).mono ?_
         · (first | exact (Ext.refl [] w).drew | exact (Ext.refl [] w).drew.alloc _ | exact ((Ext.refl [] w).alloc _).drew)
         rintro e w1 ⟨v1, rfl, hE1, ho1⟩
         have hX1 : Ext [] w w1 := by first | exact (Ext.refl [] w).drew.trans hE1 | exact ((Ext.refl [] w).drew.alloc _).trans hE1 | exact ((Ext.refl [] w).alloc _).drew.trans hE1
         have ho : w1.ownsRow w.heap.size 125 9 v1 (wout D.W (a : Int)).length (rowC (wR (wout D.W (a : Int))) (wout D.W (a : Int)).length) := owns_base ho1 (by simp)
         obtain ⟨ao1, cap1, rfl⟩ := slice_of_owns ho
         have hO1 := Lib.hid ho
         have hB1 := Lib.hid hE1
         clear ho1 ho hE1)
      | ((refine step_append_any (by rfl) (.tmp 6) (.tmp 16) 57 (by rfl) w.heap.size 125 i0 (.agg #[.int .i64 0, .int .u64 0, .int .u64 0, .int .u64 0, .int .u64 0, .int .u64 0, .int .u64 0, .int .u64 0, .int .u64 0]) 9 72 Try.underlying57 hI1.out hI2.out hI3.out hI4.out rfl (by omega) (.slice ao1 (wout D.W (a : Int)).length cap1) (wout D.W (a : Int)).length (rowC (wR (wout D.W (a : Int))) (wout D.W (a : Int)).length) (by rfl) ?_ _ 1 1 (waitR (a, lineOf D.L a)) (by rfl) ?_ ?_ ?_ ?_ ?_)
         · (first | exact hO1.out | exact hO1.out.alloc _)
         · (refine .inr ⟨_, rfl, rfl, World.news_of_block (cs := (waitR (a, lineOf D.L a)).toArray) (t := 125) (fr := (0, 0)) ?_, (wR_ok [(a, lineOf D.L a)] 1).one 0 (by omega)⟩
            first | exact World.alloc_heap_new _ _ | exact hB1.out.at (World.alloc_heap_new _ _) (by simp))
         · (have := HL.out (a : Int); unfold maxLen; omega)
         · (have := HL.out (a : Int); omega)
         · (have := hX1.size; simp at this ⊢; omega)
         intro v5 w5 ho5 hE5 hXX5
         have hX5 : Ext [] w w5 := by
           refine hXX5 w ?_ (Nat.le_refl _)
           first | exact hX1 | exact hX1.alloc _
         obtain ⟨ao5, cap5, rfl⟩ := slice_of_owns ho5
         have hO5 := Lib.hid ho5
         have q2 := hX5.cell kd2 (by simp)
         have g2 := hX5.frozen fd2 hdlt (by simp)
         clear ho5 hE5 hXX5)
      | fail))
  all_goals
    have hD5 := (HD.out.1.ext0 hX5).waits (W' := wout D.W (a : Int) ++ [(a, lineOf D.L a)]) (v := .slice ao5 ((wout D.W (a : Int)).length + 1) cap5) (by
      have := owns_base hO5.out (Nat.zero_le _)
      rw [← rowC_snoc] at this
      show World.ownsRow _ _ _ _ _ (wout D.W (a : Int) ++ [(a, lineOf D.L a)]).length (rowC _ (wout D.W (a : Int) ++ [(a, lineOf D.L a)]).length)
      rw [List.length_append]
      exact this)
    have h6 := (HSS.out w5 (.slice ao5 ((wout D.W (a : Int)).length + 1) cap5) hX5).2.2.1
    have hE6 : Ext [d] w (w5.setCell ⟨d, 2, none⟩ (.slice ao5 ((wout D.W (a : Int)).length + 1) cap5)) := hX5.wide.setCell (.inl (by simp)) _
    obtain ⟨w6, hw6⟩ : ∃ w6, w5.setCell ⟨d, 2, none⟩ (.slice ao5 ((wout D.W (a : Int)).length + 1) cap5) = w6 := ⟨_, rfl⟩
    rw [hw6] at hD5 h6 hE6 ⊢
    have H6 := Lib.hid (And.intro hD5 hE6)
    clear hD5 hE6 hw6 q2 g2 x0 x1 x2 x3 x4 x5 x6 x7
    go_wp2
    go_ret
    exact ⟨rfl, H6.out⟩
end Go.Proofs.Ytfojmjkcjdehaaa
namespace Go.Proofs.Ytfojmjkcjdehaaa
open Go Go.RowKit Go.Shelf
attribute [local go_sem] Oper.semAt_some

theorem stl_snoc (sel : Nat → Bool) (p : Wt) : ∀ (W : List Wt) (i : Nat) (S : Wd), stl sel i (W ++ [p]) S = if sel (i + W.length) then setLn (stl sel i W S) p.1 p.2 else stl sel i W S
  | [], i, S => by simp [stl]
  | q :: W, i, S => by
    show stl sel (i + 1) (W ++ [p]) _ = _
    rw [stl_snoc sel p W (i + 1)]
    have : i + 1 + W.length = i + (q :: W).length := by simp; omega
    rw [this]
    rfl
theorem stl_step (sel : Nat → Bool) (W : List Wt) (S : Wd) (j : Nat) (h : j < W.length) : stl sel 0 (W.take (j + 1)) S = if sel j then setLn (stl sel 0 (W.take j) S) (W.getD j wtD).1 (W.getD j wtD).2 else stl sel 0 (W.take j) S := by
  have e : W.getD j wtD = W[j] := by simp [h]
  rw [List.take_succ_eq_append_getElem h, stl_snoc, e]
  have : 0 + (W.take j).length = j := by simp; omega
  rw [this]
theorem DevAt.withS {w wr : World} {d lb sb : Nat} {D : Dv} (h : DevAt w d lb sb D) (hE : Ext [sb] w wr) {S' : Wd} (hS : LinesB wr sb D.n S') : DevAt wr d lb sb { D with S := S' } := by
  have hne := h.ne
  have hnw := h.noW
  obtain ⟨⟨cl, cs, wv, h1, h5⟩, h2, h3, h4⟩ := h
  exact ⟨⟨cl, cs, wv, hE.at h1 (by simp [hne.2.1]), h5.ext hE (fun g cur hg hm => hnw g cur hg (by simp at hm; simp [hm]))⟩, h2.ext hE (by simp [h4]), hS, h4⟩
theorem getD_mem {W : List Wt} {j : Nat} (h : j < W.length) : W.getD j wtD ∈ W := by
  have e : W.getD j wtD = W[j] := by simp [h]
  rw [e]
  exact List.getElem_mem h

set_option maxRecDepth 100000 in
set_option maxHeartbeats 2000000 in
theorem pm_settle (kf : Nat) (klb : Array Value) (sel : Nat → Bool) (d lb sb : Nat) (D : Dv) (w : World) (hD : DevAt w d lb sb D) (hn : DvOk D)
    (hcf : ∀ args w', (callFunc kf args).run Try.prog w' = .ok (.enter kf args) w') (hk : ∀ W, Ext [sb] w W → ∀ i, i < D.W.length → Calls Try.prog kf (#[.int .i64 ((i : Nat) : Int)] ++ klb) W fun e w' => e = .returned (.bool (sel i)) ∧ Ext [] W w') :
    Calls Try.prog 73 #[.pointer (some ⟨d, 0, none⟩), .func (.func kf) #[] klb] w fun e w' => e = .returned (.tuple #[]) ∧ DevPost [d, sb] w d lb sb (D.settle sel) w' := by
  have HD := Lib.hid (And.intro hD (And.intro hn hk))
  have hne := hD.ne
  have hlen := hn.len
  have hn1 := hn.n1
  obtain ⟨⟨cl, cs, wv, h1, hwv⟩, hl, hs, _⟩ := hD
  have k1 := cell_of (j := 1) (v := .slice (some ⟨sb, 0, none⟩) D.n cs) h1 rfl
  have k2 := cell_of (j := 2) (v := wv) h1 rfl
  have HB := Lib.hid (And.intro h1 (And.intro hs (And.intro hlen (And.intro hn1 hne))))
  rcases owns_form hwv with ⟨rfl, hl0, _⟩ | ⟨g, cap, rfl, _, _⟩
  · have hW : D.W = [] := List.eq_nil_of_length_eq_zero hl0
    have f2 := free_of h1 2
    have HW := Lib.hid hW
    clear hne hlen hn1 h1 hl hs hwv hk hl0 hW
    go_enter Try.func73, Try.ntmps73
    go_wp2
    refine wp_loop_rounds 1 ?_
    rw [rounds_succ]
    go_wp2
    go_end0
    refine ⟨rfl, ?_, (Ext.refl [d, sb] w).setCell (.inl (by simp)) _⟩
    have := HD.out.1.waits (W' := []) (v := .slice none 0 0) (World.ownsRow_nil _ _ _ _)
    unfold Dv.settle
    rw [HW.out]
    exact this
  · obtain ⟨hrow, _, hcm⟩ := RowB.of_owns (wR_ok D.W D.W.length) hwv
    have hgs : g ≠ sb := by
      rintro rfl
      obtain ⟨cur, hc, _⟩ := hs
      obtain ⟨_, cur2, hc2, _⟩ := hrow
      rw [hc] at hc2
      simp at hc2
    have HR := Lib.hid (And.intro hrow hgs)
    have HU : Hid (Try.prog.underlying 125 = _ ∧ (Try.prog.info? 125).map (·.size) = some 9) := ⟨Try.underlying125, by kernel_rfl⟩
    clear hne hlen hn1 h1 hl hs hwv hk hrow hcm hgs
    generalize hm : D.W.length = m at *
    have HM := Lib.hid hm
    clear hm
    go_enter Try.func73, Try.ntmps73
    go_wp2
    go_loopg [11] m (fun cnt i wr => ∃ j : Nat, i = .int .i64 j ∧ j + cnt = m ∧ Ext [sb] w wr ∧ LinesB wr sb D.n (stl sel 0 (D.W.take j) D.S))
    case atStart => exact ⟨0, rfl, by omega, Ext.refl _ _, HB.out.2.1⟩
    case round =>
      obtain ⟨j, rfl, hj, hE, hL⟩ := hrel
      have HE := Lib.hid (And.intro hE hL)
      have hd1 : d ∉ [sb] := by have := HB.out.2.2.2.2.2.1; simpa using this
      have q1 := hE.cell k1 hd1
      clear hL
      by_cases hlt : j < m
      · obtain ⟨p, hp⟩ : ∃ p, D.W.getD j wtD = p := ⟨_, rfl⟩
        have hpn : p.1 < D.n := by rw [← hp]; exact HD.out.2.1.lt _ (getD_mem (by rw [HM.out]; exact hlt))
        have hr := rangeAt_ext (HR.out.1.range (i := j) (by first | exact hlt | (rw [HM.out]; exact hlt))) hE (by simpa using HR.out.2)
        have hr' : wr.rangeAt g (j * 9) [.int .i64 p.1, .int .u64 (p.2 0), .int .u64 (p.2 1), .int .u64 (p.2 2), .int .u64 (p.2 3), .int .u64 (p.2 4), .int .u64 (p.2 5), .int .u64 (p.2 6), .int .u64 (p.2 7)] := by rw [← hp]; exact hr
        have HRR := Lib.hid hr'
        have HP := Lib.hid (And.intro hp hpn)
        have hsbl : sb < wr.heap.size := HE.out.2.lt
        have HK := Lib.hid (fun W' (hE' : Ext [] wr W') => HD.out.2.2 W' (hE.then hE') j hlt)
        have hi0 : (0 : Int) ≤ (j : Int) := by omega
        have hi1 : (j : Int) < (m : Int) := by omega
        have hi2 : (0 : Int) ≤ (p.1 : Int) := by omega
        have hi3 : (p.1 : Int) < (D.n : Int) := by omega
        have hjm : (j : Int) ≤ 1024 := by have := HB.out.2.2.1; have := HB.out.2.2.2.1; omega
        have HJ := Lib.hid (And.intro hj hlt)
        clear hr hr' hp hpn hj hE
        cases hb : sel j with
        | false =>
          rw [hb] at HK
          have HBB := Lib.hid hb
          clear hb
          have tok1 : True := trivial
          go_wp2_with (have _t := tok1; refine wpList_load_mid rfl _ _ rfl g (j * 9) ?_ [.int .i64 p.1, .int .u64 (p.2 0), .int .u64 (p.2 1), .int .u64 (p.2 2), .int .u64 (p.2 3), .int .u64 (p.2 4), .int .u64 (p.2 5), .int .u64 (p.2 6), .int .u64 (p.2 7)] _ ?_ HU.out.1 rfl HU.out.2 ?_; exact rfl; exact HRR.out; clear tok1)
          refine (HK.out _ ((Ext.refl [] wr).alloc _)).mono ?_
          rintro e w5 ⟨rfl, hE5⟩
          have H5 := Lib.hid (((Ext.refl [] wr).alloc _).trans hE5)
          clear hE5
          go_wp2
          go_roundg (m - (j + 1))
          case measure => have := HJ.out.1; omega
          case rel =>
            refine ⟨j + 1, by go_num, by have := HJ.out; omega, HE.out.1.then H5.out, ?_⟩
            rw [stl_step sel D.W D.S j (by rw [HM.out]; exact HJ.out.2), HBB.out]
            exact HE.out.2.ext H5.out (by simp)
        | true =>
          rw [hb] at HK
          have HBB := Lib.hid hb
          clear hb
          have tok1 : True := trivial
          go_wp2_with (have _t := tok1; refine wpList_load_mid rfl _ _ rfl g (j * 9) ?_ [.int .i64 p.1, .int .u64 (p.2 0), .int .u64 (p.2 1), .int .u64 (p.2 2), .int .u64 (p.2 3), .int .u64 (p.2 4), .int .u64 (p.2 5), .int .u64 (p.2 6), .int .u64 (p.2 7)] _ ?_ HU.out.1 rfl HU.out.2 ?_; exact rfl; exact HRR.out; clear tok1)
          refine (HK.out _ ((Ext.refl [] wr).alloc _)).mono ?_
          rintro e w5 ⟨rfl, hE5⟩
          obtain ⟨c0, c1, c2, c3, c4, c5, c6, c7, c8⟩ := nine (hE5.at (World.alloc_heap_new wr _) (by simp))
          have H5 := Lib.hid (((Ext.refl [] wr).alloc _).trans hE5)
          have q5 := H5.out.cell q1 (by simp)
          have HTH := Lib.hid ((HE.out.2.ext H5.out (by simp)).there HP.out.2)
          clear hE5 q1
          go_wp2
          go_still_tail 9, (by kernel_rfl)
          change wpList _ _ _ _ _ w5.drew
          refine wpList_store_mid rfl _ _ _ rfl sb (p.1 * 8) (lwA p.2) ?_ ?_ ?_ (lwA_info _) (lwA_all _) ?_
          · rfl
          · rfl
          · exact HTH.out
          rw [lwA_list]
          have hE6 : Ext [sb] wr (w5.drew.setCells sb (p.1 * 8) (lw p.2)) := ext_setCells _ _ (H5.out.drew.wide) (.inl (by simp))
          have hL6 : LinesB (w5.drew.setCells sb (p.1 * 8) (lw p.2)) sb D.n (setLn (stl sel 0 (D.W.take j) D.S) p.1 p.2) := (HE.out.2.ext (H5.out.trans (Ext.refl [] w5).drew) (by simp)).setLine HP.out.2 p.2
          obtain ⟨w6, hw6⟩ : ∃ w6, w5.drew.setCells sb (p.1 * 8) (lw p.2) = w6 := ⟨_, rfl⟩
          rw [hw6] at hE6 hL6 ⊢
          have H6 := Lib.hid (And.intro hE6 hL6)
          clear hE6 hL6 hw6 c0 c1 c2 c3 c4 c5 c6 c7 c8 q5
          go_wp2
          go_roundg (m - (j + 1))
          case measure => have := HJ.out.1; omega
          case rel =>
            refine ⟨j + 1, by go_num, by have := HJ.out; omega, HE.out.1.trans H6.out.1, ?_⟩
            rw [stl_step sel D.W D.S j (by rw [HM.out]; exact HJ.out.2), HBB.out, HP.out.1]
            exact H6.out.2
      · have hd : decide (j < m) = false := by simpa using hlt
        have HJ := Lib.hid (And.intro hj hlt)
        have k2' := hE.cell k2 hd1
        have f2 := free_of (hE.at HB.out.1 hd1) 2
        clear hj hlt hE
        go_wp2
        go_end0
        have hjm : D.W.take j = D.W := List.take_of_length_le (by have := HJ.out; have := HM.out; omega)
        have hL := HE.out.2
        rw [hjm] at hL
        refine ⟨rfl, ?_, (HE.out.1.sub (fun x hx => by simp at hx; simp [hx])).setCell (.inl (by simp)) _⟩
        exact (HD.out.1.withS HE.out.1 hL).waits (W' := []) (v := .slice none 0 0) (World.ownsRow_nil _ _ _ _)
end Go.Proofs.Ytfojmjkcjdehaaa
