/- The document's device: where it lies; There, Line, with. The document's device: Load, Store. The document's device: Swap. The document's device: without, Flush. -/
import Derived.Test.YtfojmjkcjdehaaaPgW
namespace Go.Proofs.Ytfojmjkcjdehaaa
open Go Go.RowKit Go.Shelf
attribute [local go_sem] Oper.semAt_some

/-- a document's lines lie in block g -/
def LnB (w : World) (g cap n : Nat) (F : Wd) : Prop := RowB w g 68 cap 8 n (lnR F) ∧ cap ≤ maxLen
/-- what waits, of the document's -/
def WtR (w : World) (v : Value) (W : List Wt) : Prop := w.ownsRow 0 70 9 v W.length (rowC (wR W) W.length)
/-- m bears no block of things of a kind -/
def NoT (w : World) (e : Nat) (m : List Nat) : Prop := ∀ g cur, w.heap[g]? = some (.cells cur e (0, 0)) → g ∉ m
theorem NoT.nil (w : World) (e : Nat) : NoT w e [] := fun _ _ _ => by simp
theorem LnB.ext {m : List Nat} {w w' : World} {g cap n : Nat} {F : Wd} (h : LnB w g cap n F) (hE : Ext m w w') (hm : NoT w 68 m) : LnB w' g cap n F := by
  refine ⟨h.1.ext hE ?_, h.2⟩
  obtain ⟨_, cur, h1, _⟩ := h.1
  exact hm g cur h1
theorem LnB.lt {w : World} {g cap n : Nat} {F : Wd} (h : LnB w g cap n F) : g < w.heap.size := h.1.lt
theorem WtR.ext {m : List Nat} {w w' : World} {v : Value} {W : List Wt} (h : WtR w v W) (hE : Ext m w w') (hm : NoT w 70 m) : WtR w' v W := owns_extT h hE (fun g cur hg _ => hm g cur hg)
theorem LnB.eight {w : World} {g cap n : Nat} {F : Wd} (h : LnB w g cap n F) {k : Nat} (hk : k < n) :
    w.cell? ⟨g, k * 8, none⟩ = some (.int .u64 (F (8 * k))) ∧ w.cell? ⟨g, k * 8 + 1, none⟩ = some (.int .u64 (F (8 * k + 1))) ∧ w.cell? ⟨g, k * 8 + 2, none⟩ = some (.int .u64 (F (8 * k + 2))) ∧ w.cell? ⟨g, k * 8 + 3, none⟩ = some (.int .u64 (F (8 * k + 3))) ∧
    w.cell? ⟨g, k * 8 + 4, none⟩ = some (.int .u64 (F (8 * k + 4))) ∧ w.cell? ⟨g, k * 8 + 5, none⟩ = some (.int .u64 (F (8 * k + 5))) ∧ w.cell? ⟨g, k * 8 + 6, none⟩ = some (.int .u64 (F (8 * k + 6))) ∧ w.cell? ⟨g, k * 8 + 7, none⟩ = some (.int .u64 (F (8 * k + 7))) := by
  have hr := h.1.range hk
  have key : ∀ j v, (lnR F k)[j]? = some v → w.cell? ⟨g, k * 8 + j, none⟩ = some v := hr
  exact ⟨key 0 _ rfl, key 1 _ rfl, key 2 _ rfl, key 3 _ rfl, key 4 _ rfl, key 5 _ rfl, key 6 _ rfl, key 7 _ rfl⟩
theorem LnB.word {w : World} {g cap n : Nat} {F : Wd} (h : LnB w g cap n F) {k j : Nat} (hk : k < n) (hj : j < 8) : w.cell? ⟨g, k * 8 + j, none⟩ = some (.int .u64 (F (8 * k + j))) :=
  h.1.range hk j _ (lnR_get F k j hj)
theorem LnB.congr {w : World} {g cap n : Nat} {F G : Wd} (h : LnB w g cap n F) (hFG : ∀ k, k < n → lnR F k = lnR G k) : LnB w g cap n G := ⟨h.1.less (Nat.le_refl _) hFG, h.2⟩
/-- the document's device -/
def RefAt (w : World) (v : Value) (D : Dv) : Prop :=
  ∃ sg sc tg tc wo wc, v = .agg #[.slice (some ⟨sg, 0, none⟩) D.n sc, .slice (some ⟨tg, 0, none⟩) D.n tc, .slice wo D.W.length wc] ∧ LnB w sg sc D.n D.L ∧ LnB w tg tc D.n D.S ∧ WtR w (.slice wo D.W.length wc) D.W
theorem RefAt.ext {m : List Nat} {w w' : World} {v : Value} {D : Dv} (h : RefAt w v D) (hE : Ext m w w') (h1 : NoT w 68 m) (h2 : NoT w 70 m) : RefAt w' v D := by
  obtain ⟨sg, sc, tg, tc, wo, wc, rfl, a, b, c⟩ := h
  exact ⟨sg, sc, tg, tc, wo, wc, rfl, a.ext hE h1, b.ext hE h1, c.ext hE h2⟩
theorem RefAt.ext0 {w w' : World} {v : Value} {D : Dv} (h : RefAt w v D) (hE : Ext [] w w') : RefAt w' v D := h.ext hE (NoT.nil _ _) (NoT.nil _ _)
/-- a device of the program's bears no block of the document's -/
theorem DevAt.noT {w : World} {d lb sb : Nat} {D : Dv} (h : DevAt w d lb sb D) {e : Nat} (h1 : e ≠ 59) (h2 : e ≠ 122) {m : List Nat} (hm : ∀ j ∈ m, j = d ∨ j = lb ∨ j = sb) : NoT w e m := by
  obtain ⟨⟨cl, cs, wv, h3, _⟩, ⟨c1, h4, _⟩, ⟨c2, h5, _⟩, _⟩ := h
  intro g cur hg hgm
  rcases hm g hgm with rfl | rfl | rfl
  · rw [h3] at hg; simp at hg; exact h1 hg.2.symm
  · rw [h4] at hg; simp at hg; exact h2 hg.2.symm
  · rw [h5] at hg; simp at hg; exact h2 hg.2.symm
theorem RefAt.extD {m : List Nat} {w w' : World} {v : Value} {D D' : Dv} {d lb sb : Nat} (h : RefAt w v D) (hD : DevAt w d lb sb D') (hE : Ext m w w') (hm : ∀ j ∈ m, j = d ∨ j = lb ∨ j = sb) : RefAt w' v D :=
  h.ext hE (hD.noT (by decide) (by decide) hm) (hD.noT (by decide) (by decide) hm)

theorem three {w : World} {b : Nat} {t : TypeId} {f : Nat × Nat} {v0 v1 v2 : Value} (h : w.heap[b]? = some (.cells #[v0, v1, v2] t f)) :
    w.cell? ⟨b, 0, none⟩ = some v0 ∧ w.cell? ⟨b, 1, none⟩ = some v1 ∧ w.cell? ⟨b, 2, none⟩ = some v2 :=
  ⟨cell_of (j := 0) h rfl, cell_of (j := 1) h rfl, cell_of (j := 2) h rfl⟩

set_option maxHeartbeats 400000 in
theorem rf_There (so ta wo : Option Addr) (n sc tn tc wn wc : Nat) (k : Int) (w : World) (hn : n ≤ 1024) :
    Calls Try.prog 101 #[.agg #[.slice so n sc, .slice ta tn tc, .slice wo wn wc], .int .i64 k] w fun e w' => e = .returned (.bool (decide (0 ≤ k) && decide (k < 8 * (n : Int)))) ∧ Ext [] w w' := by
  by_cases h0 : 0 ≤ k
  · have hg : decide (0 ≤ k) = true := by simpa using h0
    by_cases h1 : k < 8 * (n : Int)
    · have hd : decide (k < 8 * (n : Int)) = true := by simpa using h1
      rw [hd, hg]
      go_enter Try.func101, Try.ntmps101
      go_wp2
      go_ret
      exact ⟨rfl, (Ext.refl _ _).alloc _⟩
    · have hd : decide (k < 8 * (n : Int)) = false := by simpa using h1
      rw [hd, hg]
      go_enter Try.func101, Try.ntmps101
      go_wp2
      go_ret
      exact ⟨rfl, (Ext.refl _ _).alloc _⟩
  · have hg : decide (0 ≤ k) = false := by simpa using h0
    rw [hg, Bool.false_and]
    go_enter Try.func101, Try.ntmps101
    go_wp2
    go_ret
    exact ⟨rfl, (Ext.refl _ _).alloc _⟩
set_option maxHeartbeats 400000 in
theorem rf_Line (so ta wo : Option Addr) (n sc tn tc wn wc : Nat) (k : Int) (w : World) :
    Calls Try.prog 103 #[.agg #[.slice so n sc, .slice ta tn tc, .slice wo wn wc], .int .i64 k] w fun e w' => e = .returned (.bool (decide (0 ≤ k) && decide (k < (n : Int)))) ∧ Ext [] w w' := by
  by_cases h0 : 0 ≤ k
  · have hg : decide (0 ≤ k) = true := by simpa using h0
    by_cases h1 : k < (n : Int)
    · have hd : decide (k < (n : Int)) = true := by simpa using h1
      rw [hd, hg]
      go_enter Try.func103, Try.ntmps103
      go_wp2
      go_ret
      exact ⟨rfl, (Ext.refl _ _).alloc _⟩
    · have hd : decide (k < (n : Int)) = false := by simpa using h1
      rw [hd, hg]
      go_enter Try.func103, Try.ntmps103
      go_wp2
      go_ret
      exact ⟨rfl, (Ext.refl _ _).alloc _⟩
  · have hg : decide (0 ≤ k) = false := by simpa using h0
    rw [hg, Bool.false_and]
    go_enter Try.func103, Try.ntmps103
    go_wp2
    go_ret
    exact ⟨rfl, (Ext.refl _ _).alloc _⟩

theorem infoL8 : (Try.prog.info? 68).map (fun i => (i.zero, i.size, i.bytes)) = some (some (.agg #[.int .u64 0, .int .u64 0, .int .u64 0, .int .u64 0, .int .u64 0, .int .u64 0, .int .u64 0, .int .u64 0]), 8, 64) := by kernel_rfl
theorem infoWt : (Try.prog.info? 70).map (fun i => (i.zero, i.size, i.bytes)) = some (some (.agg #[.int .i64 0, .int .u64 0, .int .u64 0, .int .u64 0, .int .u64 0, .int .u64 0, .int .u64 0, .int .u64 0, .int .u64 0]), 9, 72) := by kernel_rfl
theorem lw_info8 (G : Wd) : (Try.prog.info? 68).map (·.size) = some (lwA G).size := by rw [lwA_size]; kernel_rfl
theorem setLn_row (F : Wd) (k : Nat) (G : Wd) (i : Nat) : lnR (setLn F k G) i = if i = k then lw G else lnR F i := by
  have h8 : ∀ j, j < 8 → (8 * i + j) / 8 = i ∧ (8 * i + j) % 8 = j := fun j hj => by omega
  by_cases h : i = k
  · subst h
    rw [if_pos rfl]
    unfold lnR lw setLn
    obtain ⟨a0, b0⟩ := h8 0 (by omega)
    obtain ⟨a1, b1⟩ := h8 1 (by omega)
    obtain ⟨a2, b2⟩ := h8 2 (by omega)
    obtain ⟨a3, b3⟩ := h8 3 (by omega)
    obtain ⟨a4, b4⟩ := h8 4 (by omega)
    obtain ⟨a5, b5⟩ := h8 5 (by omega)
    obtain ⟨a6, b6⟩ := h8 6 (by omega)
    obtain ⟨a7, b7⟩ := h8 7 (by omega)
    simp only [Nat.add_zero] at a0 b0
    simp only [a0, a1, a2, a3, a4, a5, a6, a7, b0, b1, b2, b3, b4, b5, b6, b7, if_true]
  · rw [if_neg h]
    unfold lnR setLn
    obtain ⟨a0, b0⟩ := h8 0 (by omega)
    obtain ⟨a1, b1⟩ := h8 1 (by omega)
    obtain ⟨a2, b2⟩ := h8 2 (by omega)
    obtain ⟨a3, b3⟩ := h8 3 (by omega)
    obtain ⟨a4, b4⟩ := h8 4 (by omega)
    obtain ⟨a5, b5⟩ := h8 5 (by omega)
    obtain ⟨a6, b6⟩ := h8 6 (by omega)
    obtain ⟨a7, b7⟩ := h8 7 (by omega)
    simp only [Nat.add_zero] at a0 b0
    simp only [a0, a1, a2, a3, a4, a5, a6, a7, h, if_false]
theorem LnB.setLine {w : World} {g cap n : Nat} {F : Wd} (h : LnB w g cap n F) {k : Nat} (hk : k < n) (G : Wd) : LnB (w.setCells g (k * 8) (lw G)) g cap n (setLn F k G) := by
  refine ⟨(h.1.set (fun i _ => (lnR_ok F (i + 1)).len i (by omega)) hk (lw_len G)).less (Nat.le_refl _) (fun i _ => ?_), h.2⟩
  rw [setLn_row]
/-- lines that are appended to none -/
theorem LnB.of_append {w : World} {v : Value} {n : Nat} {F : Wd} {base : Nat} (h : w.ownsRow base 68 8 v n (rowC (lnR F) n)) (h0 : 1 ≤ n) : ∃ g cap, v = .slice (some ⟨g, 0, none⟩) n cap ∧ LnB w g cap n F ∧ base ≤ g := by
  rcases owns_form h with ⟨_, h2, _⟩ | ⟨g, cap, rfl, _⟩
  · omega
  · obtain ⟨h1, h2, h3⟩ := RowB.of_owns (lnR_ok F n) h
    exact ⟨g, cap, rfl, ⟨h1, h3⟩, h2⟩
theorem LnB.src {w : World} {g cap n : Nat} {F : Wd} (h : LnB w g cap n F) : RowSrc w (some ⟨g, 0, none⟩) n 8 (rowC (lnR F) n) := by
  refine .inr ⟨_, rfl, rowC_len (lnR_ok F n).len, fun k u hk => ?_, rowC_one (lnR_ok F n).one⟩
  obtain ⟨i, j, hi, hj, rfl, hu⟩ := rowC_at (lnR_ok F n).len hk
  rw [add_off, Nat.zero_add]
  exact h.1.range hi j u hu

set_option maxRecDepth 100000 in
set_option maxHeartbeats 1600000 in
theorem rf_with (g cap n k : Nat) (F G : Wd) (w : World) (h : LnB w g cap n F) (hk : k < n) (hn : n ≤ 1024) :
    Calls Try.prog 102 #[.slice (some ⟨g, 0, none⟩) n cap, .int .i64 (k : Int), .agg #[.int .u64 (G 0), .int .u64 (G 1), .int .u64 (G 2), .int .u64 (G 3), .int .u64 (G 4), .int .u64 (G 5), .int .u64 (G 6), .int .u64 (G 7)]] w
      fun e w' => ∃ g' cap', e = .returned (.slice (some ⟨g', 0, none⟩) n cap') ∧ Ext [] w w' ∧ LnB w' g' cap' n (setLn F k G) := by
  obtain ⟨i0, hi, hz0, hz1, hz2⟩ := info_parts infoL8
  obtain ⟨W0, hw0⟩ : ∃ W0, w.alloc (.cells #[.int .u64 (G 0), .int .u64 (G 1), .int .u64 (G 2), .int .u64 (G 3), .int .u64 (G 4), .int .u64 (G 5), .int .u64 (G 6), .int .u64 (G 7)] 68) = W0 := ⟨_, rfl⟩
  have hE0 : Ext [] w W0 := by rw [← hw0]; exact (Ext.refl [] w).alloc _
  have hb0 : W0.heap[w.heap.size]? = some (.cells #[.int .u64 (G 0), .int .u64 (G 1), .int .u64 (G 2), .int .u64 (G 3), .int .u64 (G 4), .int .u64 (G 5), .int .u64 (G 6), .int .u64 (G 7)] 68 (0, 0)) := by rw [← hw0]; exact World.alloc_heap_new _ _
  have HSRC := Lib.hid (h.src.ext hE0 (fun _ _ => by simp))
  have H0 := Lib.hid (And.intro hE0 (And.intro hb0 (And.intro h hk)))
  have HN := Lib.hid hn
  have hI1 := Lib.hid hi
  have hI2 := Lib.hid hz0
  have hI3 := Lib.hid hz1
  have hI4 := Lib.hid hz2
  have hi0 : (0 : Int) ≤ (k : Int) := by omega
  have hi1 : (k : Int) < (n : Int) := by omega
  clear hi hz0 hz1 hz2 hE0 hb0 h hk hn
  go_enter Try.func102, Try.ntmps102
  go_wp2_with (at_builtin; refine wpList_append_any rfl _ _ _ rfl W0.heap.size 68 i0 _ 8 64 Try.underlying30 hI1.out hI2.out hI3.out hI4.out rfl (by omega) (.slice none 0 0) 0 [] rfl (World.ownsRow_nil _ _ _ _) _ n cap (rowC (lnR F) n) rfl HSRC.out ?c1 ?c2 (Nat.le_refl _) ?_)
  case c1 => have := HN.out; unfold maxLen; omega
  case c2 => have := HN.out; omega
  intro v1 w1 ho1 hE1 hn1
  obtain ⟨g1, cap1, rfl, hL1, hg1⟩ := LnB.of_append (n := n) (F := F) ho1 (by have := H0.out.2.2.2; omega)
  have hE1' : Ext [] W0 w1 := hE1
  have hb1 := hE1'.at H0.out.2.1 (by simp)
  have H1 := Lib.hid (And.intro hE1' (And.intro hL1 hg1))
  obtain ⟨x0, x1, x2, x3, x4, x5, x6, x7⟩ : _ ∧ _ ∧ _ ∧ _ ∧ _ ∧ _ ∧ _ ∧ _ := ⟨cell_of (j := 0) hb1 rfl, cell_of (j := 1) hb1 rfl, cell_of (j := 2) hb1 rfl, cell_of (j := 3) hb1 rfl, cell_of (j := 4) hb1 rfl, cell_of (j := 5) hb1 rfl, cell_of (j := 6) hb1 rfl, cell_of (j := 7) hb1 rfl⟩
  have hth : w1.there g1 (k * 8) 8 := hL1.1.there (Nat.lt_of_lt_of_le H0.out.2.2.2 hL1.1.1)
  have HTH := Lib.hid hth
  clear ho1 hE1 hn1 hL1 hg1 hE1' hth hw0 hb1
  go_wp2_with (refine wpList_store_mid rfl _ _ _ rfl g1 (k * 8) (lwA G) ?d1 ?d2 ?d3 (lw_info8 _) (lwA_all _) ?_)
  case d1 => rfl
  case d2 => rfl
  case d3 => exact HTH.out
  rw [lwA_list]
  have hS := H1.out.2.1.setLine H0.out.2.2.2 G
  have hES : Ext [] w (w1.setCells g1 (k * 8) (lw G)) := ext_setCells _ _ (H0.out.1.trans H1.out.1) (.inr (by have := H1.out.2.2; have := H0.out.1.size; omega))
  go_wp2
  go_ret
  exact ⟨g1, cap1, rfl, hES, hS⟩
end Go.Proofs.Ytfojmjkcjdehaaa
namespace Go.Proofs.Ytfojmjkcjdehaaa
open Go Go.RowKit Go.Shelf
attribute [local go_sem] Oper.semAt_some

theorem Dv.has_eq (D : Dv) (k : Int) : (decide (0 ≤ k) && decide (k < 8 * (D.n : Int))) = D.has k := rfl
theorem Dv.line_eq (D : Dv) (k : Int) : (decide (0 ≤ k) && decide (k < (D.n : Int))) = D.line k := rfl
theorem put_setLn (F : Wd) (a : Nat) (w : Int) : setLn F (a / 8) (fun i => if i = a % 8 then w else F (8 * (a / 8) + i)) = fun i => if i = a then w else F i := by
  funext i
  unfold setLn
  by_cases h : i / 8 = a / 8
  · rw [if_pos h]
    show (if i % 8 = a % 8 then w else F (8 * (a / 8) + i % 8)) = _
    by_cases h2 : i % 8 = a % 8
    · rw [if_pos h2, if_pos (by omega)]
    · rw [if_neg h2, if_neg (by omega), show 8 * (a / 8) + i % 8 = i from by omega]
  · rw [if_neg h, if_neg (by rintro rfl; exact h rfl)]

set_option maxRecDepth 100000 in
set_option maxHeartbeats 800000 in
theorem rf_Load (v : Value) (D : Dv) (k : Int) (w : World) (h : RefAt w v D) (hn : DvOk D) :
    Calls Try.prog 51 #[v, .int .i64 k] w fun e w' => e = .returned (.tuple #[.int .u64 (D.load k).1, .int .i64 (D.load k).2]) ∧ Ext [] w w' := by
  obtain ⟨sg, sc, tg, tc, wo, wc, rfl, hS, hT, hW⟩ := h
  obtain ⟨W0, hw0⟩ : ∃ W0, w.alloc (.cells #[.slice (some ⟨sg, 0, none⟩) D.n sc, .slice (some ⟨tg, 0, none⟩) D.n tc, .slice wo D.W.length wc] 33) = W0 := ⟨_, rfl⟩
  have hE0 : Ext [] w W0 := by rw [← hw0]; exact (Ext.refl [] w).alloc _
  have hb0 : W0.heap[w.heap.size]? = some (.cells #[.slice (some ⟨sg, 0, none⟩) D.n sc, .slice (some ⟨tg, 0, none⟩) D.n tc, .slice wo D.W.length wc] 33 (0, 0)) := by rw [← hw0]; exact World.alloc_heap_new _ _
  obtain ⟨k0, k1, k2⟩ := three hb0
  have HT := Lib.hid (rf_There (some ⟨sg, 0, none⟩) (some ⟨tg, 0, none⟩) wo D.n sc D.n tc D.W.length wc k W0 hn.n1)
  rw [Dv.has_eq] at HT
  cases hh : D.has k with
  | false =>
    have hr : D.load k = (0, 4) := by unfold Dv.load; rw [hh]; rfl
    rw [hr]
    rw [hh] at HT
    have H0 := Lib.hid hE0
    clear hS hT hW hE0 hb0 hr hh
    go_enter Try.func51, Try.ntmps51
    go_wp2_with fail
    refine HT.out.mono ?_
    rintro e w1 ⟨rfl, hE1⟩
    have H1 := Lib.hid (H0.out.trans hE1)
    clear hE1 hw0 k0 k1 k2
    go_wp2
    go_ret2
    exact ⟨rfl, H1.out⟩
  | true =>
    rw [hh] at HT
    obtain ⟨a, rfl, ha⟩ := Dv.has_in hh
    rw [Dv.load_nat ha]
    have hq : a / 8 < D.n := by omega
    have hr : a % 8 < 8 := by omega
    have hc := (hS.ext hE0 (NoT.nil _ _)).word hq hr
    rw [show 8 * (a / 8) + a % 8 = a from by omega] at hc
    have e1 : (a : Int) / 8 = ((a / 8 : Nat) : Int) := by omega
    have e2 : (a : Int) % 8 = ((a % 8 : Nat) : Int) := by omega
    have b0 : (0 : Int) ≤ (a : Int) := by omega
    have b1 : (a : Int) ≤ 8191 := by have := hn.n1; omega
    have c0 : (0 : Int) ≤ ((a / 8 : Nat) : Int) := by omega
    have c1 : ((a / 8 : Nat) : Int) < (D.n : Int) := by omega
    have d0 : (0 : Int) ≤ ((a % 8 : Nat) : Int) := by omega
    have d1 : ((a % 8 : Nat) : Int) < 8 := by omega
    have H0 := Lib.hid hE0
    clear hS hT hW hE0 hb0 hh hq hr ha
    generalize D.L a = x at *
    generalize a / 8 = q at *
    generalize a % 8 = r at *
    generalize (a : Int) = av at *
    go_enter Try.func51, Try.ntmps51
    go_wp2_with fail
    refine HT.out.mono ?_
    rintro e w1 ⟨rfl, hE1⟩
    have k0 := hE1.cell k0 (by simp)
    have hc := hE1.cell hc (by simp)
    have H1 := Lib.hid (H0.out.trans hE1)
    clear hE1 hw0 k1 k2
    go_wp2
    go_ret2
    exact ⟨rfl, H1.out⟩

theorem lwA_set (F : Wd) (r : Nat) (hr : r < 8) (v : Int) : (lwA F).setIfInBounds r (.int .u64 v) = lwA (fun i => if i = r then v else F i) := by
  match r, hr with
  | 0, _ | 1, _ | 2, _ | 3, _ | 4, _ | 5, _ | 6, _ | 7, _ => rfl
theorem block_set {w : World} {b r : Nat} {cs : Array Value} {t : TypeId} (h : w.heap[b]? = some (.cells cs t (0, 0))) (v : Value) : (w.setCell ⟨b, r, none⟩ v).heap[b]? = some (.cells (cs.setIfInBounds r v) t (0, 0)) := by
  simp only [World.setCell, Array.getElem?_modify, if_true, h]; rfl
theorem eightA {w : World} {b : Nat} {G : Wd} {t : TypeId} {f : Nat × Nat} (h : w.heap[b]? = some (.cells (lwA G) t f)) :
    w.cell? ⟨b, 0, none⟩ = some (.int .u64 (G 0)) ∧ w.cell? ⟨b, 1, none⟩ = some (.int .u64 (G 1)) ∧ w.cell? ⟨b, 2, none⟩ = some (.int .u64 (G 2)) ∧ w.cell? ⟨b, 3, none⟩ = some (.int .u64 (G 3)) ∧ w.cell? ⟨b, 4, none⟩ = some (.int .u64 (G 4)) ∧ w.cell? ⟨b, 5, none⟩ = some (.int .u64 (G 5)) ∧ w.cell? ⟨b, 6, none⟩ = some (.int .u64 (G 6)) ∧ w.cell? ⟨b, 7, none⟩ = some (.int .u64 (G 7)) :=
  ⟨cell_of (j := 0) h rfl, cell_of (j := 1) h rfl, cell_of (j := 2) h rfl, cell_of (j := 3) h rfl, cell_of (j := 4) h rfl, cell_of (j := 5) h rfl, cell_of (j := 6) h rfl, cell_of (j := 7) h rfl⟩
theorem tri_set0 {w : World} {g : Nat} {a b c : Value} {t : TypeId} (h : w.heap[g]? = some (.cells #[a, b, c] t (0, 0))) (z : Value) :
    (w.setCell ⟨g, 0, none⟩ z).heap[g]? = some (.cells #[z, b, c] t (0, 0)) := by
  simp only [World.setCell, Array.getElem?_modify, if_true, h]; rfl
theorem tri_set1 {w : World} {g : Nat} {a b c : Value} {t : TypeId} (h : w.heap[g]? = some (.cells #[a, b, c] t (0, 0))) (z : Value) :
    (w.setCell ⟨g, 1, none⟩ z).heap[g]? = some (.cells #[a, z, c] t (0, 0)) := by
  simp only [World.setCell, Array.getElem?_modify, if_true, h]; rfl
theorem ext_three {m : List Nat} {w0 w : World} (h : Ext m w0 w) {g : Nat} (hg : g ∈ m ∨ w0.heap.size ≤ g) (x y z : Value) : Ext m w0 (((w.setCell ⟨g, 0, none⟩ x).setCell ⟨g, 1, none⟩ y).setCell ⟨g, 2, none⟩ z) :=
  ((h.setCell (p := ⟨g, 0, none⟩) hg _).setCell (p := ⟨g, 1, none⟩) hg _).setCell (p := ⟨g, 2, none⟩) hg _

set_option maxRecDepth 100000 in
set_option maxHeartbeats 1600000 in
theorem rf_Store (v : Value) (D : Dv) (k x : Int) (w : World) (h : RefAt w v D) (hn : DvOk D) :
    Calls Try.prog 52 #[v, .int .i64 k, .int .u64 x] w fun e w' => ∃ v', e = .returned (.tuple #[v', .int .i64 (D.store k x).2]) ∧ Ext [] w w' ∧ RefAt w' v' (D.store k x).1 := by
  have HR := Lib.hid h
  obtain ⟨sg, sc, tg, tc, wo, wc, rfl, hS, hT, hW⟩ := h
  obtain ⟨W0, hw0⟩ : ∃ W0, (w.alloc (.cells #[.slice (some ⟨sg, 0, none⟩) D.n sc, .slice (some ⟨tg, 0, none⟩) D.n tc, .slice wo D.W.length wc] 33)).alloc (.cells #[.slice none 0 0, .slice none 0 0, .slice none 0 0] 33) = W0 := ⟨_, rfl⟩
  have hE0 : Ext [] w W0 := by rw [← hw0]; exact ((Ext.refl [] w).alloc _).alloc _
  obtain ⟨hb3, hb6, hs0⟩ := al2_heap (w := w) #[.slice (some ⟨sg, 0, none⟩) D.n sc, .slice (some ⟨tg, 0, none⟩) D.n tc, .slice wo D.W.length wc] #[.slice none 0 0, .slice none 0 0, .slice none 0 0] 33 33
  rw [hw0] at hb3 hb6 hs0
  obtain ⟨k0, k1, k2⟩ := three hb3
  have HT := Lib.hid (rf_There (some ⟨sg, 0, none⟩) (some ⟨tg, 0, none⟩) wo D.n sc D.n tc D.W.length wc k W0 hn.n1)
  rw [Dv.has_eq] at HT
  cases hh : D.has k with
  | false =>
    have hr : D.store k x = (D, 4) := by unfold Dv.store; rw [hh]; rfl
    rw [hr]
    rw [hh] at HT
    have H0 := Lib.hid (And.intro hE0 (And.intro hb6 hb3))
    clear hS hT hW hE0 hb3 hb6 hr hh hs0
    go_enter Try.func52, Try.ntmps52
    go_wp2_with fail
    refine HT.out.mono ?_
    rintro e w1 ⟨rfl, hE1⟩
    obtain ⟨k0, k1, k2⟩ := three (hE1.at H0.out.2.2 (by simp))
    have hb6 := hE1.at H0.out.2.1 (by simp)
    obtain ⟨m0, m1, m2⟩ := three hb6
    have f0 := free_of hb6 0
    have f1 := free_of hb6 1
    have f2 := free_of hb6 2
    have H1 := Lib.hid (And.intro (H0.out.1.trans hE1) hb6)
    clear hE1 hw0 hb6
    go_wp2
    have hE2 := ext_three H1.out.1 (g := w.heap.size + 1) (.inr (by omega)) (.slice (some ⟨sg, 0, none⟩) D.n sc) (.slice (some ⟨tg, 0, none⟩) D.n tc) (.slice wo D.W.length wc)
    refine bodyPost_ret (results_ca Try.results52 _ _ (w.heap.size + 1) _ #[.slice (some ⟨sg, 0, none⟩) D.n sc, .slice (some ⟨tg, 0, none⟩) D.n tc, .slice wo D.W.length wc] _ _ _ rfl (tri_set H1.out.2 _ _ _) rfl Try.underlying33 rfl (by kernel_rfl)) rfl ?_
    exact ⟨_, rfl, hE2, HR.out.ext0 hE2⟩
  | true =>
    rw [hh] at HT
    obtain ⟨a, rfl, ha⟩ := Dv.has_in hh
    have hr : D.store (a : Int) x = (D.put a x, 0) := by unfold Dv.store; rw [hh]; simp
    rw [hr]
    have hq : a / 8 < D.n := by omega
    have hr8 : a % 8 < 8 := by omega
    have hc := (hS.ext hE0 (NoT.nil _ _)).eight hq
    have HPS := Lib.hid (put_setLn D.L a x)
    have e1 : (a : Int) / 8 = ((a / 8 : Nat) : Int) := by omega
    have e2 : (a : Int) % 8 = ((a % 8 : Nat) : Int) := by omega
    have b0 : (0 : Int) ≤ (a : Int) := by omega
    have b1 : (a : Int) ≤ 8191 := by have := hn.n1; omega
    have c0 : (0 : Int) ≤ ((a / 8 : Nat) : Int) := by omega
    have c1 : ((a / 8 : Nat) : Int) < (D.n : Int) := by omega
    have d0 : (0 : Int) ≤ ((a % 8 : Nat) : Int) := by omega
    have d1 : ((a % 8 : Nat) : Int) < 8 := by omega
    have H0 := Lib.hid (And.intro hE0 (And.intro hb6 (And.intro hb3 (And.intro hS (And.intro hT (And.intro hW (And.intro hn (And.intro hq hr8))))))))
    clear hS hT hW hE0 hb3 hb6 hh hq hr8 ha hr hs0
    generalize hqq : a / 8 = q at *
    generalize hrr : a % 8 = r at *
    generalize (a : Int) = av at *
    have HQ := Lib.hid (And.intro hqq hrr)
    clear hqq hrr
    go_enter Try.func52, Try.ntmps52
    go_wp2_with fail
    refine HT.out.mono ?_
    rintro e w1 ⟨rfl, hE1⟩
    have k0 := hE1.cell k0 (by simp)
    have H1 := Lib.hid hE1
    obtain ⟨x0, x1, x2, x3, x4, x5, x6, x7⟩ := hc
    have x0 := hE1.cell x0 (by simp)
    have x1 := hE1.cell x1 (by simp)
    have x2 := hE1.cell x2 (by simp)
    have x3 := hE1.cell x3 (by simp)
    have x4 := hE1.cell x4 (by simp)
    have x5 := hE1.cell x5 (by simp)
    have x6 := hE1.cell x6 (by simp)
    have x7 := hE1.cell x7 (by simp)
    clear hE1 hw0 k1 k2
    have k1 := (H1.out.at H0.out.2.2.1 (by simp))
    have HB3 := Lib.hid k1
    obtain ⟨_, k1, k2⟩ := three HB3.out
    go_upto_region 4 with fail
    clear x0 x1 x2 x3 x4 x5 x6 x7
    obtain ⟨W2, hW2⟩ : ∃ W2, w1.alloc (.cells #[.int .u64 (D.L (8 * q)), .int .u64 (D.L (8 * q + 1)), .int .u64 (D.L (8 * q + 2)), .int .u64 (D.L (8 * q + 3)), .int .u64 (D.L (8 * q + 4)), .int .u64 (D.L (8 * q + 5)), .int .u64 (D.L (8 * q + 6)), .int .u64 (D.L (8 * q + 7))] 68) = W2 := ⟨_, rfl⟩
    have hE2 : Ext [] w1 W2 := by rw [← hW2]; exact (Ext.refl _ _).alloc _
    have hb2 : W2.heap[w1.heap.size]? = some (.cells (lwA (lineOf D.L q)) 68 (0, 0)) := by rw [← hW2]; exact World.alloc_heap_new _ _
    rw [hW2]
    obtain ⟨bx, hbx⟩ : ∃ bx, w1.heap.size = bx := ⟨_, rfl⟩
    rw [hbx] at hb2 ⊢
    have fr := free_of hb2 r
    have hcr : ∃ u, W2.cell? ⟨bx, r, none⟩ = some u := by
      refine ⟨_, cell_of hb2 (v := .int .u64 (lineOf D.L q r)) ?_⟩
      rw [← Array.getElem?_toList, lwA_list]
      exact lw_get _ _ H0.out.2.2.2.2.2.2.2.2
    obtain ⟨u, hu⟩ := hcr
    have H2 := Lib.hid (And.intro hE2 (And.intro hb2 hbx))
    clear hE2 hb2 hbx hW2 k0 k1 k2
    go_upto_region 5 with fail
    obtain ⟨G, hG⟩ : ∃ G : Wd, (fun i => if i = r then x else lineOf D.L q i) = G := ⟨_, rfl⟩
    obtain ⟨W3, hW3⟩ : ∃ W3, W2.setCell ⟨bx, r, none⟩ (.int .u64 x) = W3 := ⟨_, rfl⟩
    have hs1 := H1.out.size
    have hs0 := lt_of_block H0.out.2.1
    have hE3 : Ext [] w1 W3 := by rw [← hW3]; exact H2.out.1.setCell (.inr (by have := H2.out.2.2; simp; omega)) _
    have hb3 : W3.heap[bx]? = some (.cells (lwA G) 68 (0, 0)) := by
      rw [← hW3, ← hG, ← lwA_set _ _ H0.out.2.2.2.2.2.2.2.2]
      exact block_set H2.out.2.1 _
    rw [hW3]
    have HB4 := Lib.hid (hE3.at HB3.out (by simp))
    obtain ⟨k0, k1, k2⟩ := three HB4.out
    have fk0 := free_of HB4.out 0
    have hkl := lt_of_block HB4.out
    obtain ⟨x0, x1, x2, x3, x4, x5, x6, x7⟩ := eightA hb3
    have H3 := Lib.hid (And.intro hE3 (H0.out.1.trans (H1.out.trans hE3)))
    have HG := Lib.hid hG
    clear hE3 hb3 hW3 hG fr hu hs1 hs0
    go_wp2_with fail
    refine (rf_with sg sc D.n q D.L G W3 (H0.out.2.2.2.1.ext H3.out.2 (NoT.nil _ _)) H0.out.2.2.2.2.2.2.2.1 hn.n1).mono ?_
    rintro e W4 ⟨g', cap', rfl, hE4, hL4⟩
    have k0 := hE4.cell k0 (by simp)
    have k1 := hE4.cell k1 (by simp)
    have k2 := hE4.cell k2 (by simp)
    have fk0 := hE4.frozen fk0 hkl (by simp)
    have hkl4 := Nat.lt_of_lt_of_le hkl hE4.size
    obtain ⟨W5, hW5⟩ : ∃ W5, W4.setCell ⟨w.heap.size, 0, none⟩ (.slice (some ⟨g', 0, none⟩) D.n cap') = W5 := ⟨_, rfl⟩
    have hE5 : Ext [w.heap.size] W4 W5 := by rw [← hW5]; exact (Ext.refl [w.heap.size] W4).setCell (.inl (by simp)) _
    have hb5 : W5.heap[w.heap.size]? = some (.cells #[.slice (some ⟨g', 0, none⟩) D.n cap', .slice (some ⟨tg, 0, none⟩) D.n tc, .slice wo D.W.length wc] 33 (0, 0)) := by
      rw [← hW5]; exact tri_set0 (hE4.at HB4.out (by simp)) _
    have hb6 := hE5.at (hE4.at (H3.out.1.at (H1.out.at H0.out.2.1 (by simp)) (by simp)) (by simp)) (by simp)
    have H5 := Lib.hid (And.intro hE4 (And.intro hL4 (And.intro hE5 (And.intro hb5 hb6))))
    clear hE4 hL4 hE5 hb5 hb6 hkl x0 x1 x2 x3 x4 x5 x6 x7
    go_upto_region 6 with fail
    try rw [hW5]
    obtain ⟨k0, k1, k2⟩ := three H5.out.2.2.2.1
    obtain ⟨m0, m1, m2⟩ := three H5.out.2.2.2.2
    have f0 := free_of H5.out.2.2.2.2 0
    have f1 := free_of H5.out.2.2.2.2 1
    have f2 := free_of H5.out.2.2.2.2 2
    clear hW5 fk0 hkl4
    go_wp2
    have hE6 : Ext [] w W5 := (H3.out.2.trans H5.out.1).trans' H5.out.2.2.1 (fun j hj => .inr (by simp at hj; omega))
    have hE7 := ext_three hE6 (g := w.heap.size + 1) (.inr (by omega)) (.slice (some ⟨g', 0, none⟩) D.n cap') (.slice (some ⟨tg, 0, none⟩) D.n tc) (.slice wo D.W.length wc)
    have hE57 := ext_three (Ext.refl [w.heap.size + 1] W5) (g := w.heap.size + 1) (.inl (by simp)) (.slice (some ⟨g', 0, none⟩) D.n cap') (.slice (some ⟨tg, 0, none⟩) D.n tc) (.slice wo D.W.length wc)
    have hlt := lt_of_block H5.out.2.2.2.1
    have hL : LnB ((W5.setCell ⟨w.heap.size + 1, 0, none⟩ (.slice (some ⟨g', 0, none⟩) D.n cap')).setCell ⟨w.heap.size + 1, 1, none⟩ (.slice (some ⟨tg, 0, none⟩) D.n tc) |>.setCell ⟨w.heap.size + 1, 2, none⟩ (.slice wo D.W.length wc)) g' cap' D.n (D.put a x).L := by
      refine ((H5.out.2.1.ext H5.out.2.2.1 ?_).ext hE57 ?_).congr (fun k _ => ?_)
      · intro g cur hg hm
        simp at hm
        subst hm
        rw [(H5.out.1.at HB4.out (by simp))] at hg
        simp at hg
      · intro g cur hg hm
        simp at hm
        subst hm
        rw [H5.out.2.2.2.2] at hg
        simp at hg
      · rw [← HG.out]
        show lnR (setLn D.L q fun i => if i = r then x else D.L (8 * q + i)) k = _
        rw [HPS.out]
        rfl
    refine bodyPost_ret (results_ca Try.results52 _ _ (w.heap.size + 1) _ #[.slice (some ⟨g', 0, none⟩) D.n cap', .slice (some ⟨tg, 0, none⟩) D.n tc, .slice wo D.W.length wc] _ _ _ rfl (tri_set H5.out.2.2.2.2 _ _ _) rfl Try.underlying33 rfl (by kernel_rfl)) rfl ?_
    exact ⟨_, rfl, hE7, g', cap', tg, tc, wo, wc, rfl, hL, H0.out.2.2.2.2.1.ext hE7 (NoT.nil _ _), H0.out.2.2.2.2.2.1.ext hE7 (NoT.nil _ _)⟩
end Go.Proofs.Ytfojmjkcjdehaaa
namespace Go.Proofs.Ytfojmjkcjdehaaa
open Go Go.RowKit Go.Shelf
attribute [local go_sem] Oper.semAt_some

theorem Dv.load_in {D : Dv} {k : Int} (h : D.has k = true) : D.load k = (D.L k.toNat, 0) := by unfold Dv.load; rw [h]; rfl
theorem Dv.load_out {D : Dv} {k : Int} (h : D.has k = false) : D.load k = (0, 4) := by unfold Dv.load; rw [h]; rfl
theorem Dv.swap_no {D : Dv} {k fr to' : Int} (h : D.has k = false) : D.swap k fr to' = (D, false, 4) := by unfold Dv.swap; rw [h]; rfl
theorem Dv.swap_eq {D : Dv} {k fr to' : Int} (h : D.has k = true) (hf : D.L k.toNat = fr) : D.swap k fr to' = ((D.store k to').1, true, 0) := by unfold Dv.swap Dv.store; rw [h, if_pos rfl, if_pos hf]; rfl
theorem Dv.swap_ne {D : Dv} {k fr to' : Int} (h : D.has k = true) (hf : D.L k.toNat ≠ fr) : D.swap k fr to' = (D, false, 0) := by unfold Dv.swap; rw [h, if_pos rfl, if_neg hf]
theorem Dv.store_in {D : Dv} {k x : Int} (h : D.has k = true) : (D.store k x).2 = 0 := by unfold Dv.store; rw [h]; rfl

set_option maxRecDepth 100000 in
set_option maxHeartbeats 1600000 in
theorem rf_Swap (v : Value) (D : Dv) (k fr x : Int) (w : World) (h : RefAt w v D) (hn : DvOk D) :
    Calls Try.prog 53 #[v, .int .i64 k, .int .u64 fr, .int .u64 x] w fun e w' => ∃ v', e = .returned (.tuple #[v', .bool (D.swap k fr x).2.1, .int .i64 (D.swap k fr x).2.2]) ∧ Ext [] w w' ∧ RefAt w' v' (D.swap k fr x).1 := by
  have HR := Lib.hid h
  have HLD : Hid (∀ W, Ext [] w W → Calls Try.prog 51 #[v, .int .i64 k] W fun e w' => e = .returned (.tuple #[.int .u64 (D.load k).1, .int .i64 (D.load k).2]) ∧ Ext [] W w') := fun W hE => rf_Load v D k W (h.ext0 hE) hn
  have HST : Hid (∀ W, Ext [] w W → Calls Try.prog 52 #[v, .int .i64 k, .int .u64 x] W fun e w' => ∃ v', e = .returned (.tuple #[v', .int .i64 (D.store k x).2]) ∧ Ext [] W w' ∧ RefAt w' v' (D.store k x).1) := fun W hE => rf_Store v D k x W (h.ext0 hE) hn
  have hrest := h
  obtain ⟨sg, sc, tg, tc, wo, wc, rfl, _, _, _⟩ := h
  obtain ⟨W0, hw0⟩ : ∃ W0, (w.alloc (.cells #[.slice (some ⟨sg, 0, none⟩) D.n sc, .slice (some ⟨tg, 0, none⟩) D.n tc, .slice wo D.W.length wc] 33)).alloc (.cells #[.slice none 0 0, .slice none 0 0, .slice none 0 0] 33) = W0 := ⟨_, rfl⟩
  have hE0 : Ext [] w W0 := by rw [← hw0]; exact ((Ext.refl [] w).alloc _).alloc _
  obtain ⟨hb3, hb6, hs0⟩ := al2_heap (w := w) #[.slice (some ⟨sg, 0, none⟩) D.n sc, .slice (some ⟨tg, 0, none⟩) D.n tc, .slice wo D.W.length wc] #[.slice none 0 0, .slice none 0 0, .slice none 0 0] 33 33
  rw [hw0] at hb3 hb6 hs0
  obtain ⟨k0, k1, k2⟩ := three hb3
  have H0 := Lib.hid (And.intro hE0 (And.intro hb6 (And.intro hb3 hs0)))
  clear hE0 hb6 hb3 hs0 hrest
  cases hh : D.has k with
  | false =>
    rw [Dv.swap_no hh]
    rw [Dv.load_out hh] at HLD
    clear hh HST
    go_enter Try.func53, Try.ntmps53
    go_wp2_with fail
    refine (HLD.out W0 H0.out.1).mono ?_
    rintro e w1 ⟨rfl, hE1⟩
    obtain ⟨k0, k1, k2⟩ := three (hE1.at H0.out.2.2.1 (by simp))
    have hb6 := hE1.at H0.out.2.1 (by simp)
    obtain ⟨m0, m1, m2⟩ := three hb6
    have f0 := free_of hb6 0
    have f1 := free_of hb6 1
    have f2 := free_of hb6 2
    have H1 := Lib.hid (And.intro (H0.out.1.trans hE1) hb6)
    clear hE1 hw0 hb6
    go_wp2
    have hE2 := ext_three H1.out.1 (g := w.heap.size + 1) (.inr (by omega)) (.slice (some ⟨sg, 0, none⟩) D.n sc) (.slice (some ⟨tg, 0, none⟩) D.n tc) (.slice wo D.W.length wc)
    refine bodyPost_ret (results_act Try.results53 _ _ (w.heap.size + 1) _ #[.slice (some ⟨sg, 0, none⟩) D.n sc, .slice (some ⟨tg, 0, none⟩) D.n tc, .slice wo D.W.length wc] _ _ _ _ rfl (tri_set H1.out.2 _ _ _) rfl rfl Try.underlying33 rfl (by kernel_rfl)) rfl ?_
    exact ⟨_, rfl, hE2, HR.out.ext0 hE2⟩
  | true =>
    by_cases hf : D.L k.toNat = fr
    · rw [Dv.swap_eq hh hf]
      rw [Dv.load_in hh, hf] at HLD
      rw [Dv.store_in hh] at HST
      have hff : (fr != fr) = false := by simp
      clear hh hf
      generalize (D.store k x).1 = D' at *
      go_enter Try.func53, Try.ntmps53
      go_wp2_with fail
      refine (HLD.out W0 H0.out.1).mono ?_
      rintro e w1 ⟨rfl, hE1⟩
      obtain ⟨k0, k1, k2⟩ := three (hE1.at H0.out.2.2.1 (by simp))
      have H1 := Lib.hid (And.intro (H0.out.1.trans hE1) (hE1.at H0.out.2.1 (by simp)))
      clear hE1 hw0
      go_wp2_with fail
      refine (HST.out w1 H1.out.1).mono ?_
      rintro e w2 ⟨v2, rfl, hE2, hR2⟩
      have hR2' := hR2
      obtain ⟨sg2, sc2, tg2, tc2, wo2, wc2, rfl, _, _, _⟩ := hR2'
      have hb6 := hE2.at H1.out.2 (by simp)
      obtain ⟨m0, m1, m2⟩ := three hb6
      have f0 := free_of hb6 0
      have f1 := free_of hb6 1
      have f2 := free_of hb6 2
      have hlt := lt_of_block hb6
      have H2 := Lib.hid (And.intro (H1.out.1.trans hE2) (And.intro hb6 hR2))
      clear hE2 hR2 hb6 k0 k1 k2
      go_wp2
      have hE4 := ext_three H2.out.1 (g := w.heap.size + 1) (.inr (by omega)) (.slice (some ⟨sg2, 0, none⟩) D'.n sc2) (.slice (some ⟨tg2, 0, none⟩) D'.n tc2) (.slice wo2 D'.W.length wc2)
      have hE34 := ext_three (Ext.refl [w.heap.size + 1] w2) (g := w.heap.size + 1) (.inl (by simp)) (.slice (some ⟨sg2, 0, none⟩) D'.n sc2) (.slice (some ⟨tg2, 0, none⟩) D'.n tc2) (.slice wo2 D'.W.length wc2)
      refine bodyPost_ret (results_act Try.results53 _ _ (w.heap.size + 1) _ #[.slice (some ⟨sg2, 0, none⟩) D'.n sc2, .slice (some ⟨tg2, 0, none⟩) D'.n tc2, .slice wo2 D'.W.length wc2] _ _ _ _ rfl (block_al (tri_set H2.out.2.1 _ _ _)) rfl rfl Try.underlying33 rfl (by kernel_rfl)) rfl ?_
      refine ⟨_, rfl, hE4.alloc _, H2.out.2.2.ext (hE34.alloc _) ?_ ?_⟩
      all_goals
        intro g cur hg hm
        simp at hm
        subst hm
        rw [H2.out.2.1] at hg
        simp at hg
    · rw [Dv.swap_ne hh hf]
      rw [Dv.load_in hh] at HLD
      obtain ⟨y, hy⟩ : ∃ y, D.L k.toNat = y := ⟨_, rfl⟩
      rw [hy] at HLD hf
      have hff : (y != fr) = true := by simpa using hf
      clear hh hf HST hy
      go_enter Try.func53, Try.ntmps53
      go_wp2_with fail
      refine (HLD.out W0 H0.out.1).mono ?_
      rintro e w1 ⟨rfl, hE1⟩
      obtain ⟨k0, k1, k2⟩ := three (hE1.at H0.out.2.2.1 (by simp))
      have hb6 := hE1.at H0.out.2.1 (by simp)
      obtain ⟨m0, m1, m2⟩ := three hb6
      have f0 := free_of hb6 0
      have f1 := free_of hb6 1
      have f2 := free_of hb6 2
      have H1 := Lib.hid (And.intro (H0.out.1.trans hE1) hb6)
      clear hE1 hw0 hb6
      go_wp2
      have hE2 := ext_three H1.out.1 (g := w.heap.size + 1) (.inr (by omega)) (.slice (some ⟨sg, 0, none⟩) D.n sc) (.slice (some ⟨tg, 0, none⟩) D.n tc) (.slice wo D.W.length wc)
      refine bodyPost_ret (results_act Try.results53 _ _ (w.heap.size + 1) _ #[.slice (some ⟨sg, 0, none⟩) D.n sc, .slice (some ⟨tg, 0, none⟩) D.n tc, .slice wo D.W.length wc] _ _ _ _ rfl (tri_set H1.out.2 _ _ _) rfl rfl Try.underlying33 rfl (by kernel_rfl)) rfl ?_
      exact ⟨_, rfl, hE2, HR.out.ext0 hE2⟩
end Go.Proofs.Ytfojmjkcjdehaaa
namespace Go.Proofs.Ytfojmjkcjdehaaa
open Go Go.RowKit Go.Shelf
attribute [local go_sem] Oper.semAt_some

theorem WtR.nine {w : World} {ao : Option Addr} {n cap : Nat} {W : List Wt} (h : WtR w (.slice ao n cap) W) {i : Nat} (hi : i < W.length) : ∃ g, ao = some ⟨g, 0, none⟩ ∧ 
    w.cell? ⟨g, i * 9, none⟩ = some (.int .i64 (W.getD i wtD).1) ∧ w.cell? ⟨g, i * 9 + 1, none⟩ = some (.int .u64 ((W.getD i wtD).2 0)) ∧ w.cell? ⟨g, i * 9 + 2, none⟩ = some (.int .u64 ((W.getD i wtD).2 1)) ∧ w.cell? ⟨g, i * 9 + 3, none⟩ = some (.int .u64 ((W.getD i wtD).2 2)) ∧
    w.cell? ⟨g, i * 9 + 4, none⟩ = some (.int .u64 ((W.getD i wtD).2 3)) ∧ w.cell? ⟨g, i * 9 + 5, none⟩ = some (.int .u64 ((W.getD i wtD).2 4)) ∧ w.cell? ⟨g, i * 9 + 6, none⟩ = some (.int .u64 ((W.getD i wtD).2 5)) ∧ w.cell? ⟨g, i * 9 + 7, none⟩ = some (.int .u64 ((W.getD i wtD).2 6)) ∧ w.cell? ⟨g, i * 9 + 8, none⟩ = some (.int .u64 ((W.getD i wtD).2 7)) := by
  rcases owns_form h with ⟨_, h2, _⟩ | ⟨g, cap', hv, _⟩
  · omega
  · cases hv
    have hB := (RowB.of_owns (wR_ok W _) h).1
    have hr := hB.range hi
    refine ⟨g, rfl, ?_⟩
    have key : ∀ j v, (waitR (W.getD i wtD))[j]? = some v → w.cell? ⟨g, i * 9 + j, none⟩ = some v := hr
    exact ⟨key 0 _ rfl, key 1 _ rfl, key 2 _ rfl, key 3 _ rfl, key 4 _ rfl, key 5 _ rfl, key 6 _ rfl, key 7 _ rfl, key 8 _ rfl⟩
/-- what has been laid out anew, behind so many -/
def WoutAt (base : Nat) (W : List Wt) (k : Int) (j : Nat) (v : Value) (w : World) : Prop := w.ownsRow base 70 9 v (wout (W.take j) k).length (rowC (wR (wout (W.take j) k)) (wout (W.take j) k).length)

set_option maxRecDepth 100000 in
set_option maxHeartbeats 1600000 in
theorem rf_without (so ta wo : Option Addr) (n sc tn tc wc : Nat) (W : List Wt) (k : Int) (w : World) (hW : WtR w (.slice wo W.length wc) W) (hn : W.length ≤ 1024) :
    Calls Try.prog 104 #[.agg #[.slice so n sc, .slice ta tn tc, .slice wo W.length wc], .int .i64 k] w fun e w' => ∃ v', e = .returned v' ∧ Ext [] w w' ∧ w'.ownsRow w.heap.size 70 9 v' (wout W k).length (rowC (wR (wout W k)) (wout W k).length) := by
  obtain ⟨i0, hi, hz0, hz1, hz2⟩ := info_parts infoWt
  have hI1 := Lib.hid hi
  have hI2 := Lib.hid hz0
  have hI3 := Lib.hid hz1
  have hI4 := Lib.hid hz2
  clear hi hz0 hz1 hz2
  obtain ⟨W0, hw0⟩ : ∃ W0, w.alloc (.cells #[.slice so n sc, .slice ta tn tc, .slice wo W.length wc] 33) = W0 := ⟨_, rfl⟩
  have hE0 : Ext [] w W0 := by rw [← hw0]; exact (Ext.refl [] w).alloc _
  have hb0 : W0.heap[w.heap.size]? = some (.cells #[.slice so n sc, .slice ta tn tc, .slice wo W.length wc] 33 (0, 0)) := by rw [← hw0]; exact World.alloc_heap_new _ _
  have hs0 : W0.heap.size = w.heap.size + 1 := by rw [← hw0]; simp
  have H0 := Lib.hid (And.intro hE0 (And.intro hb0 (And.intro hs0 (And.intro (hW.ext hE0 (NoT.nil _ _)) hn))))
  obtain ⟨m, hm⟩ : ∃ m, W.length = m := ⟨_, rfl⟩
  have HM := Lib.hid hm
  clear hE0 hb0 hs0 hW hn
  rw [hm] at hw0 ⊢
  clear hm
  go_enter Try.func104, Try.ntmps104
  go_wp2
  go_loopg [5, 6] m (fun cnt v i wr => ∃ j : Nat, i = .int .i64 j ∧ j + cnt = m ∧ Ext [] W0 wr ∧ WoutAt W0.heap.size W k j v wr)
  case atStart => exact ⟨0, rfl, by omega, Ext.refl _ _, World.ownsRow_nil _ _ _ _⟩
  case round =>
    obtain ⟨j, rfl, hj, hE, hO⟩ := hrel
    obtain ⟨ao5, cap5, rfl⟩ := slice_of_owns hO
    have hb := hE.at H0.out.2.1 (by simp)
    rw [HM.out] at hb
    obtain ⟨k0, k1, k2⟩ := three hb
    have hjm : (j : Int) ≤ 1024 := by have := HM.out; have := H0.out.2.2.2.2; omega
    by_cases hlt : j < m
    · obtain ⟨g, rfl, x0, x1, x2, x3, x4, x5, x6, x7, x8⟩ := (H0.out.2.2.2.1.ext hE (NoT.nil _ _)).nine (i := j) (by rw [HM.out]; exact hlt)
      obtain ⟨p, hp⟩ : ∃ p, W.getD j wtD = p := ⟨_, rfl⟩
      rw [hp] at x0 x1 x2 x3 x4 x5 x6 x7 x8
      have hst := wout_step W k j (by rw [HM.out]; exact hlt)
      rw [hp] at hst
      have hi0 : (0 : Int) ≤ (j : Int) := by omega
      have hi1 : (j : Int) < (m : Int) := by omega
      have HJ := Lib.hid (And.intro hj (And.intro hlt (And.intro hE (And.intro hO hst))))
      clear hj hE hO hp hst hb
      by_cases hw : (p.1 : Int) = k
      · have hne : ((p.1 : Int) != k) = false := by simpa using hw
        have HB := Lib.hid (show isW k p = true from by unfold isW; simpa using hw)
        clear hw
        go_wp2
        go_roundg (m - (j + 1))
        case measure => have := HJ.out.1; omega
        case rel =>
          refine ⟨j + 1, by go_num, by have := HJ.out; omega, HJ.out.2.2.1, ?_⟩
          have h := HJ.out.2.2.2.2
          rw [HB.out, if_pos rfl, List.append_nil] at h
          unfold WoutAt
          rw [h]
          exact HJ.out.2.2.2.1
      · have hne : ((p.1 : Int) != k) = true := by simpa using hw
        have HB := Lib.hid (show isW k p = false from by unfold isW; simpa using hw)
        have HL := Lib.hid (wout_le W k j)
        clear hw
        go_wp2_with (at_builtin; refine wpList_append_any rfl (.tmp 22) (.tmp 28) 31 rfl W0.heap.size 70 i0 (.agg #[.int .i64 0, .int .u64 0, .int .u64 0, .int .u64 0, .int .u64 0, .int .u64 0, .int .u64 0, .int .u64 0, .int .u64 0]) 9 72 Try.underlying31 hI1.out hI2.out hI3.out hI4.out rfl (by omega) (.slice ao5 (wout (W.take j) k).length cap5) (wout (W.take j) k).length (rowC (wR (wout (W.take j) k)) (wout (W.take j) k).length) rfl ?c0 (some ⟨wr.heap.size, 0, none⟩) 1 1 (waitR p) rfl ?c1 ?c2 ?c3 ?c4 ?_)
        case c0 => exact HJ.out.2.2.2.1.alloc _
        case c1 => exact .inr ⟨_, rfl, rfl, World.news_of_block (cs := (waitR p).toArray) (t := 70) (fr := (0, 0)) (World.alloc_heap_new _ _), (wR_ok [p] 1).one 0 (by omega)⟩
        case c2 => have := HL.out; unfold maxLen; omega
        case c3 => have := HL.out; omega
        case c4 => have := HJ.out.2.2.1.size; simp; omega
        intro v5 w5 ho5 hE5 hn5
        have hX5 : Ext [] W0 w5 := (HJ.out.2.2.1.alloc _).trans' hE5 (fun j hj => .inr (by have := (HJ.out.2.2.2.1.lt j (by simpa using hj)).1; omega))
        have HZ := Lib.hid (And.intro ho5 hX5)
        clear ho5 hE5 hn5 hX5
        go_wp2
        go_roundg (m - (j + 1))
        case measure => have := HJ.out.1; omega
        case rel =>
          refine ⟨j + 1, by go_num, by have := HJ.out; omega, HZ.out.2, ?_⟩
          have h := HJ.out.2.2.2.2
          rw [HB.out] at h
          unfold WoutAt
          rw [h]
          have h2 := HZ.out.1
          rw [← rowC_snoc] at h2
          show World.ownsRow _ _ _ _ _ (wout (W.take j) k ++ [p]).length (rowC _ (wout (W.take j) k ++ [p]).length)
          rw [List.length_append]
          exact h2
    · have hd : decide (j < m) = false := by simpa using hlt
      obtain rfl : j = m := by omega
      have HJ := Lib.hid (And.intro hE hO)
      clear hj hE hO hlt hb
      go_wp2
      go_ret
      refine ⟨.slice ao5 (wout (List.take j W) k).length cap5, rfl, H0.out.1.trans HJ.out.1, ?_⟩
      have h := HJ.out.2
      unfold WoutAt at h
      have e : wout (W.take j) k = wout W k := by rw [← HM.out, List.take_length]
      rw [← e]
      exact owns_base (base := W0.heap.size) h (by have := H0.out.2.2.1; omega)
end Go.Proofs.Ytfojmjkcjdehaaa
