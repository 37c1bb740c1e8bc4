/- Package pmem: where a device lies; places of addresses; a word's address. Package pmem: questions, and what is asked. Package pmem: what is told, or the first error of questions (printed by genask.py). -/
import Derived.Test.YtfojmjkcjdehaaaPmM
import Derived.Test.YtfojmjkcjdehaaaRes
import Derived.Test.YtfojmjkcjdehaaaFlt
import Derived.Test.YtfojmjkcjdehaaaChecked
import Derived.Shelf.Abstract
import Derived.Deep.RegionHeld3
namespace Go.Proofs.Ytfojmjkcjdehaaa
open Go Go.RowKit Go.Shelf
attribute [local go_sem] Oper.semAt_some

theorem infoLine : (Try.prog.info? 122).map (fun i => (i.zero, i.size, i.bytes)) = some (some (.agg #[.int .u64 0, .int .u64 0, .int .u64 0, .int .u64 0, .int .u64 0, .int .u64 0, .int .u64 0, .int .u64 0]), 8, 64) := by kernel_rfl
theorem infoWait : (Try.prog.info? 125).map (fun i => (i.zero, i.size, i.bytes)) = some (some (.agg #[.int .i64 0, .int .u64 0, .int .u64 0, .int .u64 0, .int .u64 0, .int .u64 0, .int .u64 0, .int .u64 0, .int .u64 0]), 9, 72) := by kernel_rfl

/-- words lie in block b, n lines of them -/
def LinesB (w : World) (b n : Nat) (F : Wd) : Prop := ∃ cur, w.heap[b]? = some (.cells cur 122 (0, 0)) ∧ ∀ i, i < 8 * n → cur[i]? = some (.int .u64 (F i))
theorem LinesB.ext {m : List Nat} {w w' : World} {b n : Nat} {F : Wd} (h : LinesB w b n F) (hE : Ext m w w') (hb : b ∉ m) : LinesB w' b n F := by
  obtain ⟨cur, h1, h2⟩ := h
  exact ⟨cur, hE.at h1 hb, h2⟩
theorem LinesB.lt {w : World} {b n : Nat} {F : Wd} (h : LinesB w b n F) : b < w.heap.size := by obtain ⟨_, h1, _⟩ := h; exact lt_of_block h1
theorem LinesB.cell {w : World} {b n : Nat} {F : Wd} (h : LinesB w b n F) {i : Nat} (hi : i < 8 * n) : w.cell? ⟨b, i, none⟩ = some (.int .u64 (F i)) := by
  obtain ⟨cur, h1, h2⟩ := h
  exact cell_of h1 (h2 i hi)
theorem LinesB.free {w : World} {b n : Nat} {F : Wd} (h : LinesB w b n F) (i : Nat) : w.frozen? ⟨b, i, none⟩ = false := by
  obtain ⟨cur, h1, h2⟩ := h
  exact free_of h1 i
theorem LinesB.congr {w : World} {b n : Nat} {F G : Wd} (h : LinesB w b n F) (hFG : ∀ i, i < 8 * n → F i = G i) : LinesB w b n G := by
  obtain ⟨cur, h1, h2⟩ := h
  exact ⟨cur, h1, fun i hi => by rw [h2 i hi, hFG i hi]⟩
theorem LinesB.set {w : World} {b n : Nat} {F : Wd} (h : LinesB w b n F) {a : Nat} (ha : a < 8 * n) (v : Int) : LinesB (w.setCell ⟨b, a, none⟩ (.int .u64 v)) b n (fun i => if i = a then v else F i) := by
  obtain ⟨cur, h1, h2⟩ := h
  have hac : a < cur.size := by
    have := h2 a ha
    exact (Array.getElem?_eq_some_iff.1 this).1
  refine ⟨cur.setIfInBounds a (.int .u64 v), ?_, fun i hi => ?_⟩
  · simp only [World.setCell, Array.getElem?_modify, if_true, h1]; rfl
  · by_cases he : i = a
    · subst he
      simp [hac]
    · rw [Array.getElem?_setIfInBounds_ne (Ne.symm he), h2 i hi]
      simp [he]
/-- what waits, as cells -/
def wtD : Wt := (0, fun _ => 0)
def waitR (p : Wt) : List Value := [.int .i64 p.1, .int .u64 (p.2 0), .int .u64 (p.2 1), .int .u64 (p.2 2), .int .u64 (p.2 3), .int .u64 (p.2 4), .int .u64 (p.2 5), .int .u64 (p.2 6), .int .u64 (p.2 7)]
def wR (W : List Wt) : Nat → List Value := fun i => waitR (W.getD i wtD)
theorem wR_ok (W : List Wt) (n : Nat) : RowOk n 9 (wR W) := ⟨fun _ _ => rfl, fun i _ u hu => by simp [wR, waitR] at hu; rcases hu with rfl | rfl | rfl | rfl | rfl | rfl | rfl | rfl | rfl <;> rfl⟩
def WaitsV (w : World) (v : Value) (W : List Wt) : Prop := w.ownsRow 0 125 9 v W.length (rowC (wR W) W.length)
theorem owns_extT {m : List Nat} {w w' : World} {base e c : Nat} {v : Value} {n : Nat} {xs : List Value} (h : w.ownsRow base e c v n xs) (hE : Ext m w w') (hm : ∀ g cur, w.heap[g]? = some (.cells cur e (0, 0)) → v.ownBlock = some g → g ∉ m) : w'.ownsRow base e c v n xs := by
  rcases h with ⟨h1, ⟨h2, h3⟩ | ⟨g, cap, cur, h2, h3, h4, h5⟩⟩
  · exact ⟨h1, .inl ⟨h2, h3⟩⟩
  · exact ⟨h1, .inr ⟨g, cap, cur, h2, h3, hE.at h4 (hm g cur h4 (by rw [h2]; rfl)), h5⟩⟩
/-- m bears no block of things that wait -/
def NoW (w : World) (m : List Nat) : Prop := ∀ g cur, w.heap[g]? = some (.cells cur 125 (0, 0)) → g ∉ m
theorem WaitsV.ext {m : List Nat} {w w' : World} {v : Value} {W : List Wt} (h : WaitsV w v W) (hE : Ext m w w') (hm : NoW w m) : WaitsV w' v W := owns_extT h hE (fun g cur hg _ => hm g cur hg)
theorem NoW.nil (w : World) : NoW w [] := fun _ _ _ => by simp
/-- a device lies in block d, what is seen in lb, what stays in sb -/
def DevAt (w : World) (d lb sb : Nat) (D : Dv) : Prop :=
  (∃ cl cs wv, w.heap[d]? = some (.cells #[.slice (some ⟨lb, 0, none⟩) D.n cl, .slice (some ⟨sb, 0, none⟩) D.n cs, wv] 59 (0, 0)) ∧ WaitsV w wv D.W) ∧ LinesB w lb D.n D.L ∧ LinesB w sb D.n D.S ∧ lb ≠ sb
theorem DevAt.noW {w : World} {d lb sb : Nat} {D : Dv} (h : DevAt w d lb sb D) : NoW w [d, lb, sb] := by
  obtain ⟨⟨cl, cs, wv, h1, _⟩, ⟨c1, h2, _⟩, ⟨c2, h3, _⟩, _⟩ := h
  intro g cur hg hm
  simp at hm
  rcases hm with rfl | rfl | rfl
  · rw [h1] at hg; simp at hg
  · rw [h2] at hg; simp at hg
  · rw [h3] at hg; simp at hg
theorem DevAt.ne {w : World} {d lb sb : Nat} {D : Dv} (h : DevAt w d lb sb D) : d ≠ lb ∧ d ≠ sb ∧ lb ≠ sb := by
  obtain ⟨⟨cl, cs, wv, h1, _⟩, ⟨c1, h2, _⟩, ⟨c2, h3, _⟩, h4⟩ := h
  refine ⟨?_, ?_, h4⟩
  · rintro rfl; rw [h1] at h2; simp at h2
  · rintro rfl; rw [h1] at h3; simp at h3
theorem DevAt.lt {w : World} {d lb sb : Nat} {D : Dv} (h : DevAt w d lb sb D) : d < w.heap.size ∧ lb < w.heap.size ∧ sb < w.heap.size := by
  obtain ⟨⟨cl, cs, wv, h1, _⟩, h2, h3, _⟩ := h
  exact ⟨lt_of_block h1, h2.lt, h3.lt⟩
theorem DevAt.ext {m : List Nat} {w w' : World} {d lb sb : Nat} {D : Dv} (h : DevAt w d lb sb D) (hE : Ext m w w') (hd : d ∉ m) (hl : lb ∉ m) (hs : sb ∉ m) (hw : NoW w m) : DevAt w' d lb sb D := by
  obtain ⟨⟨cl, cs, wv, h1, h5⟩, h2, h3, h4⟩ := h
  exact ⟨⟨cl, cs, wv, hE.at h1 hd, h5.ext hE hw⟩, h2.ext hE hl, h3.ext hE hs, h4⟩
theorem DevAt.ext0 {w w' : World} {d lb sb : Nat} {D : Dv} (h : DevAt w d lb sb D) (hE : Ext [] w w') : DevAt w' d lb sb D := h.ext hE (by simp) (by simp) (by simp) (NoW.nil _)

theorem eqlLines (a : Addr) (n c : Nat) (w : World) : (binOp .eql 56 (.slice (some a) n c) (.slice none 0 0)).run Try.prog w = .ok (.bool false) w := by
  rw [Lib.run_eql_slice_nil _ _ _ _ _ _ _ _ Try.underlying56]
  rfl
theorem eqlLines0 (w : World) : (binOp .eql 56 (.slice none 0 0) (.slice none 0 0)).run Try.prog w = .ok (.bool true) w := by
  rw [Lib.run_eql_slice_nil _ _ _ _ _ _ _ _ Try.underlying56]
  rfl
set_option maxHeartbeats 400000 in
theorem pm_none (d lb sb : Nat) (D : Dv) (w : World) (h : DevAt w d lb sb D) :
    Calls Try.prog 58 #[.pointer (some ⟨d, 0, none⟩)] w fun e w' => e = .returned (.bool false) ∧ w = w' := by
  have he := eqlLines
  obtain ⟨⟨cl, cs, wv, h1, _⟩, _⟩ := h
  have k1 := cell_of (j := 0) h1 rfl
  clear h1
  go_enter Try.func58, Try.ntmps58
  go_wp2
  go_ret
  exact ⟨rfl, rfl⟩
/-- a device that is none: nil, or one without lines -/
def NoneD (w : World) (v : Value) : Prop := v = .pointer none ∨ ∃ c, v = .pointer (some ⟨c, 0, none⟩) ∧ w.heap[c]? = some (.cells #[.slice none 0 0, .slice none 0 0, .slice none 0 0] 59 (0, 0))
theorem NoneD.ext {w w' : World} {v : Value} (h : NoneD w v) (hE : Ext [] w w') : NoneD w' v := h.imp id (fun ⟨c, h1, h2⟩ => ⟨c, h1, hE.at h2 (by simp)⟩)
set_option maxHeartbeats 400000 in
theorem pm_isnone (v : Value) (w : World) (h : NoneD w v) :
    Calls Try.prog 58 #[v] w fun e w' => e = .returned (.bool true) ∧ w = w' := by
  rcases h with rfl | ⟨c, rfl, h⟩
  · go_enter Try.func58, Try.ntmps58
    go_wp2
    go_ret
    exact ⟨rfl, rfl⟩
  · have he := eqlLines0
    have h1 := cell_of (j := 0) (v := .slice none 0 0) h rfl
    clear h
    go_enter Try.func58, Try.ntmps58
    go_wp2
    go_ret
    exact ⟨rfl, rfl⟩

set_option maxHeartbeats 400000 in
theorem pm_has (b : Option Addr) (n cap : Nat) (k : Int) (w : World) : Calls Try.prog 106 #[.slice b n cap, .int .i64 k] w fun e w' => e = .returned (.bool (decide (0 ≤ k) && decide (k < (n : Int)))) ∧ w = w' := by
  by_cases h0 : 0 ≤ k
  · by_cases h1 : k < (n : Int)
    · have hd : decide (k < (n : Int)) = true := by simpa using h1
      have hg : decide (0 ≤ k) = true := by simpa using h0
      rw [hd, hg]
      go_enter Try.func106, Try.ntmps106
      go_wp2
      go_ret
      exact ⟨rfl, rfl⟩
    · have hd : decide (k < (n : Int)) = false := by simpa using h1
      have hg : decide (0 ≤ k) = true := by simpa using h0
      rw [hd, hg]
      go_enter Try.func106, Try.ntmps106
      go_wp2
      go_ret
      exact ⟨rfl, rfl⟩
  · have hg : decide (0 ≤ k) = false := by simpa using h0
    rw [hg, Bool.false_and]
    go_enter Try.func106, Try.ntmps106
    go_wp2
    go_ret
    exact ⟨rfl, rfl⟩

set_option maxHeartbeats 400000 in
theorem pl_of (a b : Nat) (ha : a < 1024) (hb : b < 1024) (w : World) :
    Calls Try.prog 123 #[.complex .f64 (floatOfInt .f64 (a : Int)) (floatOfInt .f64 (b : Int))] w fun e w' => e = .returned (.agg #[.int .i64 a, .int .i64 b]) ∧ Ext [] w w' := by
  have h1 : ∀ w, (convert 175 3 (.float .f64 (floatOfInt .f64 (a : Int)))).run Try.prog w = .ok (.int .i64 (a : Int)) w := fun w => run_convert_float_int w 175 3 .f64 .i64 _ _ (by rw [Try.underlying175]; rfl) Try.underlying3 (flt_back a ha)
  have h2 : ∀ w, (convert 175 3 (.float .f64 (floatOfInt .f64 (b : Int)))).run Try.prog w = .ok (.int .i64 (b : Int)) w := fun w => run_convert_float_int w 175 3 .f64 .i64 _ _ (by rw [Try.underlying175]; rfl) Try.underlying3 (flt_back b hb)
  go_enter Try.func123, Try.ntmps123
  go_wp2
  refine bodyPost_ret (results_agg Try.results123 _ _ w.heap.size _ _ _ _ rfl (World.alloc_heap_new _ _) Try.underlying162 rfl (by kernel_rfl)) rfl ⟨rfl, (Ext.refl _ _).alloc _⟩

set_option maxRecDepth 100000 in
set_option maxHeartbeats 400000 in
theorem pl_at (n : Nat) (h : n < 8192) (w : World) :
    Calls Try.prog 105 #[.int .i64 n] w fun e w' => e = .returned (.tuple #[.agg #[.int .i64 ((n / 8 : Nat) : Int), .int .i64 ((n % 8 : Nat) : Int)], .int .i64 0]) ∧ Ext [] w w' := by
  have e1 : (n : Int) / 8 = ((n / 8 : Nat) : Int) := by omega
  have e3 : (n : Int) - ((n / 8 : Nat) : Int) * 8 = ((n % 8 : Nat) : Int) := by omega
  have b0 : (0 : Int) ≤ (n : Int) := by omega
  have b1 : (n : Int) ≤ 8191 := by omega
  have ha : n / 8 < 1024 := by omega
  have hb : n % 8 < 1024 := by omega
  have c0 : (0 : Int) ≤ ((n / 8 : Nat) : Int) := by omega
  have c1 : ((n / 8 : Nat) : Int) ≤ 1023 := by omega
  have HQ := Lib.hid (And.intro ha hb)
  clear ha hb h
  generalize n / 8 = q at *
  generalize n % 8 = r at *
  generalize (n : Int) = v at *
  have e2 : wrap64 ((q : Int) * 8) = (q : Int) * 8 := IntWalk.wrap64_in _ (by omega)
  have e4 : wrap64 (v - (q : Int) * 8) = (r : Int) := by rw [e3]; exact IntWalk.wrap64_in _ (by have := HQ.out.2; omega)
  go_enter Try.func105, Try.ntmps105
  go_wp2_with fail
  refine (pl_of q r HQ.out.1 HQ.out.2 _).mono ?_
  rintro e w1 ⟨rfl, hE1⟩
  have hb := hE1.at (World.alloc_heap_new w _) (by simp)
  have k0 := cell_of (j := 0) (v := .int .i64 0) hb rfl
  have k1 := cell_of (j := 1) (v := .int .i64 0) hb rfl
  have f0 := free_of hb 0
  have f1 := free_of hb 1
  have HB := Lib.hid (And.intro hb hE1)
  clear hb hE1
  go_wp2
  refine bodyPost_ret (results_ca Try.results105 _ _ w.heap.size _ _ _ _ _ rfl (pair_set1 (pair_set0 HB.out.1)) rfl Try.underlying162 rfl (by kernel_rfl)) rfl ?_
  exact ⟨rfl, (((Ext.refl [] w).alloc _).trans HB.out.2).trans' (((Ext.refl [w.heap.size] w1).setCell (.inl (by simp)) _).setCell (.inl (by simp)) _) (fun j hj => .inr (by simp at hj; omega))⟩
set_option maxRecDepth 100000 in
set_option maxHeartbeats 400000 in
theorem pl_atBad (n : Int) (h : n < 0 ∨ 8192 ≤ n) (w : World) :
    Calls Try.prog 105 #[.int .i64 n] w fun e w' => e = .returned (.tuple #[.agg #[.int .i64 0, .int .i64 0], .int .i64 4]) ∧ Ext [] w w' := by
  rcases h with h | h
  all_goals
    go_enter Try.func105, Try.ntmps105
    go_wp2
  · refine bodyPost_ret (results_ca Try.results105 _ _ w.heap.size _ _ _ _ _ rfl (World.alloc_heap_new _ _) rfl Try.underlying162 rfl (by kernel_rfl)) rfl ?_
    exact ⟨rfl, (Ext.refl [] w).alloc _⟩
  · refine bodyPost_ret (results_ca Try.results105 _ _ w.heap.size _ _ _ _ _ rfl (World.alloc_heap_new _ _) rfl Try.underlying162 rfl (by kernel_rfl)) rfl ?_
    exact ⟨rfl, (Ext.refl [] w).alloc _⟩

/-- a word's address -/
def wordV (b n : Nat) (at' : Int) : Value := if 0 ≤ at' ∧ at' < 8 * (n : Int) then .pointer (some ⟨b, at'.toNat, none⟩) else .pointer none
theorem wordV_in {b n a : Nat} (h : a < 8 * n) : wordV b n (a : Int) = .pointer (some ⟨b, a, none⟩) := by unfold wordV; rw [if_pos (by omega)]; simp
theorem wordV_out {b n : Nat} {a : Int} (h : a < 0 ∨ 8 * (n : Int) ≤ a) : wordV b n a = .pointer none := by unfold wordV; rw [if_neg (by omega)]
set_option maxRecDepth 100000 in
set_option maxHeartbeats 800000 in
theorem pm_word (b n cap : Nat) (at' : Int) (hn : n ≤ 1024) (w : World) :
    Calls Try.prog 63 #[.slice (some ⟨b, 0, none⟩) n cap, .int .i64 at'] w fun e w' => e = .returned (wordV b n at') ∧ Ext [] w w' := by
  by_cases hr : at' < 0 ∨ 8192 ≤ at'
  · rw [wordV_out (by omega)]
    have HA := Lib.hid (pl_atBad at' hr)
    clear hr
    go_enter Try.func63, Try.ntmps63
    go_wp2_with fail
    refine (HA.out _).mono ?_
    rintro e w1 ⟨rfl, hE1⟩
    go_wp2
    go_ret
    exact ⟨rfl, hE1.alloc _⟩
  · obtain ⟨a, rfl⟩ : ∃ a : Nat, at' = (a : Int) := ⟨at'.toNat, by omega⟩
    have ha : a < 8192 := by omega
    have HA := Lib.hid (pl_at a ha)
    have HH := Lib.hid (pm_has (some ⟨b, 0, none⟩) n cap ((a / 8 : Nat) : Int))
    by_cases h : a < 8 * n
    · rw [wordV_in h]
      have hd : (decide ((0 : Int) ≤ ((a / 8 : Nat) : Int)) && decide (((a / 8 : Nat) : Int) < (n : Int))) = true := by simp; omega
      rw [hd] at HH
      have e1 : (0 : Int) ≤ ((a / 8 : Nat) : Int) := by omega
      have e2 : ((a / 8 : Nat) : Int) < (n : Int) := by omega
      have e3 : (0 : Int) ≤ ((a % 8 : Nat) : Int) := by omega
      have e4 : ((a % 8 : Nat) : Int) < 8 := by omega
      have HX : Hid (a / 8 * 8 + a % 8 = a) := by show a / 8 * 8 + a % 8 = a; omega
      clear hr ha h hd hn
      generalize a / 8 = k at *
      generalize a % 8 = j at *
      go_enter Try.func63, Try.ntmps63
      go_wp2_with fail
      refine (HA.out _).mono ?_
      rintro e w1 ⟨rfl, hE1⟩
      have H1 := Lib.hid hE1
      clear hE1
      go_wp2_with fail
      refine (HH.out _).mono ?_
      rintro e w2 ⟨rfl, rfl⟩
      go_wp2
      go_quiet (fail)
      go_wp2
      go_ret
      refine ⟨?_, ?_⟩
      · rw [← HX.out]; rfl
      · exact (H1.out.alloc _).drewN _
    · rw [wordV_out (by omega)]
      have hd : (decide ((0 : Int) ≤ ((a / 8 : Nat) : Int)) && decide (((a / 8 : Nat) : Int) < (n : Int))) = false := by simp; omega
      rw [hd] at HH
      clear hr ha h hd hn
      generalize a / 8 = k at *
      generalize a % 8 = j at *
      go_enter Try.func63, Try.ntmps63
      go_wp2_with fail
      refine (HA.out _).mono ?_
      rintro e w1 ⟨rfl, hE1⟩
      have H1 := Lib.hid hE1
      clear hE1
      go_wp2_with fail
      refine (HH.out _).mono ?_
      rintro e w2 ⟨rfl, rfl⟩
      go_wp2
      go_ret
      exact ⟨rfl, H1.out.alloc _⟩
end Go.Proofs.Ytfojmjkcjdehaaa
namespace Go.Proofs.Ytfojmjkcjdehaaa
open Go Go.RowKit Go.Shelf
attribute [local go_sem] Oper.semAt_some

set_option maxHeartbeats 400000 in
theorem pm_is (v : Value) (w : World) : Calls Try.prog 64 #[v] w fun e w' => e = .returned (.agg #[.func (.func 58) #[v] #[], .int .i64 1]) ∧ Ext [] w w' := by
  go_enter Try.func64, Try.ntmps64
  go_wp2
  refine bodyPost_ret (results_agg Try.results64 _ _ w.heap.size _ _ _ _ rfl (World.alloc_heap_new _ _) Try.underlying131 rfl (by kernel_rfl)) rfl ⟨rfl, (Ext.refl _ _).alloc _⟩
/-- the question's own: a device, and a number -/
def Own2 (w : World) (b1 b2 : Nat) (v : Value) (k : Int) : Prop := w.heap[b1]? = some (.cells #[v] 26 (0, 0)) ∧ w.heap[b2]? = some (.cells #[.int .i64 k] 3 (0, 0))
theorem Own2.ext {m : List Nat} {w w' : World} {b1 b2 : Nat} {v : Value} {k : Int} (h : Own2 w b1 b2 v k) (hE : Ext m w w') (h1 : b1 ∉ m) (h2 : b2 ∉ m) : Own2 w' b1 b2 v k := ⟨hE.at h.1 h1, hE.at h.2 h2⟩
set_option maxHeartbeats 400000 in
theorem pm_at (b : Option Addr) (k : Int) (w : World) : Calls Try.prog 65 #[.pointer b, .int .i64 k] w fun e w' => e = .returned (.agg #[.func (.func 107) #[] #[.pointer (some ⟨w.heap.size, 0, none⟩), .pointer (some ⟨w.heap.size + 1, 0, none⟩)], .int .i64 4]) ∧ Ext [] w w' ∧ Own2 w' w.heap.size (w.heap.size + 1) (.pointer b) k := by
  obtain ⟨h1, h2, h3, hs⟩ := al3_heap (w := w) #[.pointer b] #[.int .i64 k] #[.func (.func 107) #[] #[.pointer (some ⟨w.heap.size, 0, none⟩), .pointer (some ⟨w.heap.size + 1, 0, none⟩)], .int .i64 4] 26 3 131
  have HB := Lib.hid (And.intro h1 (And.intro h2 h3))
  clear h1 h2 h3 hs
  go_enter Try.func65, Try.ntmps65
  go_wp2
  refine bodyPost_ret (results_agg Try.results65 _ _ (w.heap.size + 2) _ _ _ _ rfl HB.out.2.2 Try.underlying131 rfl (by kernel_rfl)) rfl ⟨rfl, (((Ext.refl _ _).alloc _).alloc _).alloc _, HB.out.1, HB.out.2.1⟩
set_option maxHeartbeats 400000 in
theorem pm_line (b : Option Addr) (k : Int) (w : World) : Calls Try.prog 71 #[.pointer b, .int .i64 k] w fun e w' => e = .returned (.agg #[.func (.func 110) #[] #[.pointer (some ⟨w.heap.size, 0, none⟩), .pointer (some ⟨w.heap.size + 1, 0, none⟩)], .int .i64 4]) ∧ Ext [] w w' ∧ Own2 w' w.heap.size (w.heap.size + 1) (.pointer b) k := by
  obtain ⟨h1, h2, h3, hs⟩ := al3_heap (w := w) #[.pointer b] #[.int .i64 k] #[.func (.func 110) #[] #[.pointer (some ⟨w.heap.size, 0, none⟩), .pointer (some ⟨w.heap.size + 1, 0, none⟩)], .int .i64 4] 26 3 131
  have HB := Lib.hid (And.intro h1 (And.intro h2 h3))
  clear h1 h2 h3 hs
  go_enter Try.func71, Try.ntmps71
  go_wp2
  refine bodyPost_ret (results_agg Try.results71 _ _ (w.heap.size + 2) _ _ _ _ rfl HB.out.2.2 Try.underlying131 rfl (by kernel_rfl)) rfl ⟨rfl, (((Ext.refl _ _).alloc _).alloc _).alloc _, HB.out.1, HB.out.2.1⟩

theorem eqPtr (a : Addr) (w : World) : (binOp .eql 127 (.pointer (some a)) (.pointer none)).run Try.prog w = .ok (.bool false) w := by kernel_rfl
/-- the question for an address -/
theorem pm_at1 (b1 b2 d lb sb : Nat) (k : Int) (D : Dv) (w : World) (hD : DevAt w d lb sb D) (hn : D.n ≤ 1024) (hO : Own2 w b1 b2 (.pointer (some ⟨d, 0, none⟩)) k) :
    Calls Try.prog 107 #[.pointer (some ⟨b1, 0, none⟩), .pointer (some ⟨b2, 0, none⟩)] w fun e w' => e = .returned (.bool (!D.has k)) ∧ Ext [] w w' := by
  obtain ⟨⟨cl, cs, wv, h1, _⟩, _⟩ := hD
  have k0 := cell_of (j := 0) h1 rfl
  have k1 := cell_of (j := 0) hO.1 rfl
  have k2 := cell_of (j := 0) hO.2 rfl
  have HW := Lib.hid (pm_word lb D.n cl k hn)
  have he := eqPtr
  by_cases h : 0 ≤ k ∧ k < 8 * (D.n : Int)
  · have hh : D.has k = true := by unfold Dv.has; simp [h]
    rw [hh]
    have hw : wordV lb D.n k = .pointer (some ⟨lb, k.toNat, none⟩) := by unfold wordV; rw [if_pos h]
    rw [hw] at HW
    clear h1 hO h hh hw
    go_enter Try.func107, Try.ntmps107
    go_wp2
    go_region_held3 (fun w' => w'.cell? ⟨d, 0, none⟩ = some (.slice (some ⟨lb, 0, none⟩) D.n cl) ∧ w'.cell? ⟨b1, 0, none⟩ = some (.pointer (some ⟨d, 0, none⟩)) ∧ w'.cell? ⟨b2, 0, none⟩ = some (.int .i64 k)) (first | go_keep | exact ⟨hE1.cell (w := w.drew) k0 (by simp), hE1.cell (w := w.drew) k1 (by simp), hE1.cell (w := w.drew) k2 (by simp)⟩)
      ((go_at_call 63; refine (HW.out _).mono ?_; rintro e w1 ⟨rfl, hE1⟩))
    all_goals go_wp2
    all_goals go_ret
    all_goals exact ⟨rfl, (Ext.refl [] w).drew.trans hE1⟩
  · have hh : D.has k = false := by unfold Dv.has; simp; omega
    rw [hh]
    have hw : wordV lb D.n k = .pointer none := by unfold wordV; rw [if_neg h]
    rw [hw] at HW
    clear h1 hO h hh hw
    go_enter Try.func107, Try.ntmps107
    go_wp2
    go_region_held3 (fun w' => w'.cell? ⟨d, 0, none⟩ = some (.slice (some ⟨lb, 0, none⟩) D.n cl) ∧ w'.cell? ⟨b1, 0, none⟩ = some (.pointer (some ⟨d, 0, none⟩)) ∧ w'.cell? ⟨b2, 0, none⟩ = some (.int .i64 k)) (first | go_keep | exact ⟨hE1.cell (w := w.drew) k0 (by simp), hE1.cell (w := w.drew) k1 (by simp), hE1.cell (w := w.drew) k2 (by simp)⟩)
      ((go_at_call 63; refine (HW.out _).mono ?_; rintro e w1 ⟨rfl, hE1⟩))
    all_goals go_wp2
    all_goals go_ret
    all_goals exact ⟨rfl, (Ext.refl [] w).drew.trans hE1⟩
theorem pm_line1 (b1 b2 d lb sb : Nat) (k : Int) (D : Dv) (w : World) (hD : DevAt w d lb sb D) (hO : Own2 w b1 b2 (.pointer (some ⟨d, 0, none⟩)) k) :
    Calls Try.prog 110 #[.pointer (some ⟨b1, 0, none⟩), .pointer (some ⟨b2, 0, none⟩)] w fun e w' => e = .returned (.bool (!D.line k)) ∧ Ext [] w w' := by
  obtain ⟨⟨cl, cs, wv, h1, _⟩, _⟩ := hD
  have k0 := cell_of (j := 0) h1 rfl
  have k1 := cell_of (j := 0) hO.1 rfl
  have k2 := cell_of (j := 0) hO.2 rfl
  have HW := Lib.hid (fun w => pm_has (some ⟨lb, 0, none⟩) D.n cl k w)
  have hb : (decide (0 ≤ k) && decide (k < (D.n : Int))) = D.line k := rfl
  rw [hb] at HW
  clear hb h1 hO
  generalize D.line k = r at *
  go_enter Try.func110, Try.ntmps110
  go_wp2
  go_quiet ((go_at_call 106; exact Calls.quiet_of_same ((HW.out _).mono fun _ _ h => ⟨h.1, h.2.symm⟩)))
  go_wp2
  go_ret
  exact ⟨rfl, (Ext.refl [] w).drewN _⟩
end Go.Proofs.Ytfojmjkcjdehaaa
namespace Go.Proofs.Ytfojmjkcjdehaaa
open Go Go.RowKit Go.Shelf
attribute [local go_sem] Oper.semAt_some

set_option maxRecDepth 100000 in
set_option maxHeartbeats 1000000 in
theorem asked2_u64_nil (tf : Nat) (tcp : Array Value) (b : Nat) (v : Value) (K : Nat) (lb : Array Value) (er : Int) (w : World) (f0 : Nat × Nat) (hb : w.heap[b]? = some (.cells #[.func (.func 58) #[v] #[], .int .i64 1, .func (.func K) #[] lb, .int .i64 er] 131 f0))
    (hN : ∀ W, Ext [] w W → Calls Try.prog 58 #[v] W fun e w' => e = .returned (.bool true) ∧ W = w') :
    Calls Try.prog 61 #[.func (.func tf) #[] tcp, .slice (some ⟨b, 0, none⟩) 2 2] w fun e w' => e = .returned (.tuple #[.int .u64 0, .int .i64 1]) ∧ Ext [] w w' := by
  have d0 := cell_of hb (j := 0) rfl
  have d1 := cell_of hb (j := 1) rfl
  have d2 := cell_of hb (j := 2) rfl
  have d3 := cell_of hb (j := 3) rfl
  have hbl : b < w.heap.size := lt_of_block hb
  have HN := Lib.hid hN
  clear hN hb
  go_enter Try.func61, Try.ntmps61
  go_wp2_with fail
  refine wp_scope_ahead 0 rfl ?_
  go_wp2_with fail
  refine wp_loop_rounds 3 ?_
  rw [rounds_succ]
  go_wp2_with fail
  refine (HN.out _ (by repeat (first | exact Ext.refl [] _ | exact hE1 | exact hE2 | refine Ext.alloc ?_ _))).mono ?_
  rintro e w' ⟨rfl, rfl⟩
  go_wp2
  go_step3
  simp only [Exit.inBlock, Exit.then]
  refine ⟨rfl, ?_⟩
  go_wp2
  rw [Exit.noGoto_ret]
  go_ret2
  exact ⟨rfl, by repeat (first | exact Ext.refl [] _ | refine Ext.alloc ?_ _)⟩

set_option maxRecDepth 100000 in
set_option maxHeartbeats 1000000 in
theorem asked2_u64_bad (tf : Nat) (tcp : Array Value) (b : Nat) (v : Value) (K : Nat) (lb : Array Value) (er : Int) (w : World) (f0 : Nat × Nat) (hb : w.heap[b]? = some (.cells #[.func (.func 58) #[v] #[], .int .i64 1, .func (.func K) #[] lb, .int .i64 er] 131 f0))
    (hN : ∀ W, Ext [] w W → Calls Try.prog 58 #[v] W fun e w' => e = .returned (.bool false) ∧ W = w') (hcf : ∀ w', (callFunc K lb).run Try.prog w' = .ok (.enter K lb) w')
    (hK : ∀ W, Ext [] w W → Calls Try.prog K lb W fun e w' => e = .returned (.bool true) ∧ Ext [] W w') :
    Calls Try.prog 61 #[.func (.func tf) #[] tcp, .slice (some ⟨b, 0, none⟩) 2 2] w fun e w' => e = .returned (.tuple #[.int .u64 0, .int .i64 er]) ∧ Ext [] w w' := by
  have HK := Lib.hid hK
  clear hK
  have d0 := cell_of hb (j := 0) rfl
  have d1 := cell_of hb (j := 1) rfl
  have d2 := cell_of hb (j := 2) rfl
  have d3 := cell_of hb (j := 3) rfl
  have hbl : b < w.heap.size := lt_of_block hb
  have HN := Lib.hid hN
  clear hN hb
  go_enter Try.func61, Try.ntmps61
  go_wp2_with fail
  refine wp_scope_ahead 0 rfl ?_
  go_wp2_with fail
  refine wp_loop_rounds 3 ?_
  rw [rounds_succ]
  go_wp2_with fail
  refine (HN.out _ (by repeat (first | exact Ext.refl [] _ | exact hE1 | exact hE2 | refine Ext.alloc ?_ _))).mono ?_
  rintro e w' ⟨rfl, rfl⟩
  go_wp2_with fail
  rw [rounds_succ]
  go_wp2_with fail
  refine (HK.out _ (by repeat (first | exact Ext.refl [] _ | exact hE1 | exact hE2 | refine Ext.alloc ?_ _))).mono ?_
  rintro e w3 ⟨rfl, hE3⟩
  have H3 := Lib.hid hE3
  clear hE3
  go_wp2
  go_step3
  simp only [Exit.inBlock, Exit.then]
  refine ⟨rfl, ?_⟩
  go_wp2
  rw [Exit.noGoto_ret]
  go_ret2
  exact ⟨rfl, (((Ext.refl [] w).alloc _).alloc _).trans H3.out⟩

set_option maxRecDepth 100000 in
set_option maxHeartbeats 1000000 in
theorem asked2_u64_ok (tf : Nat) (tcp : Array Value) (b : Nat) (v : Value) (K : Nat) (lb : Array Value) (er : Int) (w : World) (f0 : Nat × Nat) (hb : w.heap[b]? = some (.cells #[.func (.func 58) #[v] #[], .int .i64 1, .func (.func K) #[] lb, .int .i64 er] 131 f0))
    (hN : ∀ W, Ext [] w W → Calls Try.prog 58 #[v] W fun e w' => e = .returned (.bool false) ∧ W = w') (hcf : ∀ w', (callFunc K lb).run Try.prog w' = .ok (.enter K lb) w')
    (hK : ∀ W, Ext [] w W → Calls Try.prog K lb W fun e w' => e = .returned (.bool false) ∧ Ext [] W w')
    (htf : ∀ w', (callFunc tf tcp).run Try.prog w' = .ok (.enter tf tcp) w') (Q : World → Value → World → Prop)
    (hT : ∀ W, Ext [] w W → Calls Try.prog tf tcp W fun e w' => ∃ x, e = .returned x ∧ Q W x w') :
    Calls Try.prog 61 #[.func (.func tf) #[] tcp, .slice (some ⟨b, 0, none⟩) 2 2] w fun e w' => ∃ x W, e = .returned (.tuple #[x, .int .i64 0]) ∧ Ext [] w W ∧ Q W x w' := by
  have HT := Lib.hid hT
  clear hT
  have HK := Lib.hid hK
  clear hK
  have d0 := cell_of hb (j := 0) rfl
  have d1 := cell_of hb (j := 1) rfl
  have d2 := cell_of hb (j := 2) rfl
  have d3 := cell_of hb (j := 3) rfl
  have hbl : b < w.heap.size := lt_of_block hb
  have HN := Lib.hid hN
  clear hN hb
  go_enter Try.func61, Try.ntmps61
  go_wp2_with fail
  refine wp_scope_ahead 0 rfl ?_
  go_wp2_with fail
  refine wp_loop_rounds 3 ?_
  rw [rounds_succ]
  go_wp2_with fail
  refine (HN.out _ (by repeat (first | exact Ext.refl [] _ | exact hE1 | exact hE2 | refine Ext.alloc ?_ _))).mono ?_
  rintro e w' ⟨rfl, rfl⟩
  go_wp2_with fail
  rw [rounds_succ]
  go_wp2_with fail
  refine (HK.out _ (by repeat (first | exact Ext.refl [] _ | exact hE1 | exact hE2 | refine Ext.alloc ?_ _))).mono ?_
  rintro e w3 ⟨rfl, hE3⟩
  have H3 := Lib.hid ((((Ext.refl [] w).alloc (.cells #[.func (.func 58) #[v] #[], .int .i64 1] 131)).alloc (.cells #[.func (.func K) #[] lb, .int .i64 er] 131)).trans hE3)
  clear hE3 d0 d1 d2 d3 hbl
  go_wp2_with fail
  rw [rounds_succ]
  go_wp2_with fail
  refine (HT.out w3 H3.out).mono ?_
  rintro e w4 ⟨x, rfl, hQ⟩
  have HQ := Lib.hid hQ
  clear hQ
  go_wp2
  rw [jump_ret]
  go_ret2
  exact ⟨x, w3, rfl, H3.out, HQ.out⟩

set_option maxRecDepth 100000 in
set_option maxHeartbeats 1000000 in
theorem asked1_int_nil (tf : Nat) (tcp : Array Value) (b : Nat) (v : Value) (w : World) (f0 : Nat × Nat) (hb : w.heap[b]? = some (.cells #[.func (.func 58) #[v] #[], .int .i64 1] 131 f0))
    (hN : ∀ W, Ext [] w W → Calls Try.prog 58 #[v] W fun e w' => e = .returned (.bool true) ∧ W = w') :
    Calls Try.prog 68 #[.func (.func tf) #[] tcp, .slice (some ⟨b, 0, none⟩) 1 1] w fun e w' => e = .returned (.tuple #[.int .i64 0, .int .i64 1]) ∧ Ext [] w w' := by
  have d0 := cell_of hb (j := 0) rfl
  have d1 := cell_of hb (j := 1) rfl
  have hbl : b < w.heap.size := lt_of_block hb
  have HN := Lib.hid hN
  clear hN hb
  go_enter Try.func68, Try.ntmps68
  go_wp2_with fail
  refine wp_scope_ahead 0 rfl ?_
  go_wp2_with fail
  refine wp_loop_rounds 3 ?_
  rw [rounds_succ]
  go_wp2_with fail
  refine (HN.out _ (by repeat (first | exact Ext.refl [] _ | exact hE1 | exact hE2 | refine Ext.alloc ?_ _))).mono ?_
  rintro e w' ⟨rfl, rfl⟩
  go_wp2
  go_step3
  simp only [Exit.inBlock, Exit.then]
  refine ⟨rfl, ?_⟩
  go_wp2
  rw [Exit.noGoto_ret]
  go_ret2
  exact ⟨rfl, by repeat (first | exact Ext.refl [] _ | refine Ext.alloc ?_ _)⟩

set_option maxRecDepth 100000 in
set_option maxHeartbeats 1000000 in
theorem asked1_int_ok (tf : Nat) (tcp : Array Value) (b : Nat) (v : Value) (w : World) (f0 : Nat × Nat) (hb : w.heap[b]? = some (.cells #[.func (.func 58) #[v] #[], .int .i64 1] 131 f0))
    (hN : ∀ W, Ext [] w W → Calls Try.prog 58 #[v] W fun e w' => e = .returned (.bool false) ∧ W = w')
    (htf : ∀ w', (callFunc tf tcp).run Try.prog w' = .ok (.enter tf tcp) w') (Q : World → Value → World → Prop)
    (hT : ∀ W, Ext [] w W → Calls Try.prog tf tcp W fun e w' => ∃ x, e = .returned x ∧ Q W x w') :
    Calls Try.prog 68 #[.func (.func tf) #[] tcp, .slice (some ⟨b, 0, none⟩) 1 1] w fun e w' => ∃ x W, e = .returned (.tuple #[x, .int .i64 0]) ∧ Ext [] w W ∧ Q W x w' := by
  have HT := Lib.hid hT
  clear hT
  have d0 := cell_of hb (j := 0) rfl
  have d1 := cell_of hb (j := 1) rfl
  have hbl : b < w.heap.size := lt_of_block hb
  have HN := Lib.hid hN
  clear hN hb
  go_enter Try.func68, Try.ntmps68
  go_wp2_with fail
  refine wp_scope_ahead 0 rfl ?_
  go_wp2_with fail
  refine wp_loop_rounds 3 ?_
  rw [rounds_succ]
  go_wp2_with fail
  refine (HN.out _ (by repeat (first | exact Ext.refl [] _ | exact hE1 | exact hE2 | refine Ext.alloc ?_ _))).mono ?_
  rintro e w' ⟨rfl, rfl⟩
  go_wp2_with fail
  rw [rounds_succ]
  clear d0 d1 hbl
  go_wp2_with fail
  refine (HT.out _ ((Ext.refl [] w).alloc _)).mono ?_
  rintro e w4 ⟨x, rfl, hQ⟩
  have HQ := Lib.hid hQ
  clear hQ
  go_wp2
  rw [jump_ret]
  go_ret2
  exact ⟨x, _, rfl, (Ext.refl [] w).alloc _, HQ.out⟩

set_option maxRecDepth 100000 in
set_option maxHeartbeats 1000000 in
theorem asked2_int_nil (tf : Nat) (tcp : Array Value) (b : Nat) (v : Value) (K : Nat) (lb : Array Value) (er : Int) (w : World) (f0 : Nat × Nat) (hb : w.heap[b]? = some (.cells #[.func (.func 58) #[v] #[], .int .i64 1, .func (.func K) #[] lb, .int .i64 er] 131 f0))
    (hN : ∀ W, Ext [] w W → Calls Try.prog 58 #[v] W fun e w' => e = .returned (.bool true) ∧ W = w') :
    Calls Try.prog 68 #[.func (.func tf) #[] tcp, .slice (some ⟨b, 0, none⟩) 2 2] w fun e w' => e = .returned (.tuple #[.int .i64 0, .int .i64 1]) ∧ Ext [] w w' := by
  have d0 := cell_of hb (j := 0) rfl
  have d1 := cell_of hb (j := 1) rfl
  have d2 := cell_of hb (j := 2) rfl
  have d3 := cell_of hb (j := 3) rfl
  have hbl : b < w.heap.size := lt_of_block hb
  have HN := Lib.hid hN
  clear hN hb
  go_enter Try.func68, Try.ntmps68
  go_wp2_with fail
  refine wp_scope_ahead 0 rfl ?_
  go_wp2_with fail
  refine wp_loop_rounds 3 ?_
  rw [rounds_succ]
  go_wp2_with fail
  refine (HN.out _ (by repeat (first | exact Ext.refl [] _ | exact hE1 | exact hE2 | refine Ext.alloc ?_ _))).mono ?_
  rintro e w' ⟨rfl, rfl⟩
  go_wp2
  go_step3
  simp only [Exit.inBlock, Exit.then]
  refine ⟨rfl, ?_⟩
  go_wp2
  rw [Exit.noGoto_ret]
  go_ret2
  exact ⟨rfl, by repeat (first | exact Ext.refl [] _ | refine Ext.alloc ?_ _)⟩

set_option maxRecDepth 100000 in
set_option maxHeartbeats 1000000 in
theorem asked2_int_bad (tf : Nat) (tcp : Array Value) (b : Nat) (v : Value) (K : Nat) (lb : Array Value) (er : Int) (w : World) (f0 : Nat × Nat) (hb : w.heap[b]? = some (.cells #[.func (.func 58) #[v] #[], .int .i64 1, .func (.func K) #[] lb, .int .i64 er] 131 f0))
    (hN : ∀ W, Ext [] w W → Calls Try.prog 58 #[v] W fun e w' => e = .returned (.bool false) ∧ W = w') (hcf : ∀ w', (callFunc K lb).run Try.prog w' = .ok (.enter K lb) w')
    (hK : ∀ W, Ext [] w W → Calls Try.prog K lb W fun e w' => e = .returned (.bool true) ∧ Ext [] W w') :
    Calls Try.prog 68 #[.func (.func tf) #[] tcp, .slice (some ⟨b, 0, none⟩) 2 2] w fun e w' => e = .returned (.tuple #[.int .i64 0, .int .i64 er]) ∧ Ext [] w w' := by
  have HK := Lib.hid hK
  clear hK
  have d0 := cell_of hb (j := 0) rfl
  have d1 := cell_of hb (j := 1) rfl
  have d2 := cell_of hb (j := 2) rfl
  have d3 := cell_of hb (j := 3) rfl
  have hbl : b < w.heap.size := lt_of_block hb
  have HN := Lib.hid hN
  clear hN hb
  go_enter Try.func68, Try.ntmps68
  go_wp2_with fail
  refine wp_scope_ahead 0 rfl ?_
  go_wp2_with fail
  refine wp_loop_rounds 3 ?_
  rw [rounds_succ]
  go_wp2_with fail
  refine (HN.out _ (by repeat (first | exact Ext.refl [] _ | exact hE1 | exact hE2 | refine Ext.alloc ?_ _))).mono ?_
  rintro e w' ⟨rfl, rfl⟩
  go_wp2_with fail
  rw [rounds_succ]
  go_wp2_with fail
  refine (HK.out _ (by repeat (first | exact Ext.refl [] _ | exact hE1 | exact hE2 | refine Ext.alloc ?_ _))).mono ?_
  rintro e w3 ⟨rfl, hE3⟩
  have H3 := Lib.hid hE3
  clear hE3
  go_wp2
  go_step3
  simp only [Exit.inBlock, Exit.then]
  refine ⟨rfl, ?_⟩
  go_wp2
  rw [Exit.noGoto_ret]
  go_ret2
  exact ⟨rfl, (((Ext.refl [] w).alloc _).alloc _).trans H3.out⟩

set_option maxRecDepth 100000 in
set_option maxHeartbeats 1000000 in
theorem asked2_int_ok (tf : Nat) (tcp : Array Value) (b : Nat) (v : Value) (K : Nat) (lb : Array Value) (er : Int) (w : World) (f0 : Nat × Nat) (hb : w.heap[b]? = some (.cells #[.func (.func 58) #[v] #[], .int .i64 1, .func (.func K) #[] lb, .int .i64 er] 131 f0))
    (hN : ∀ W, Ext [] w W → Calls Try.prog 58 #[v] W fun e w' => e = .returned (.bool false) ∧ W = w') (hcf : ∀ w', (callFunc K lb).run Try.prog w' = .ok (.enter K lb) w')
    (hK : ∀ W, Ext [] w W → Calls Try.prog K lb W fun e w' => e = .returned (.bool false) ∧ Ext [] W w')
    (htf : ∀ w', (callFunc tf tcp).run Try.prog w' = .ok (.enter tf tcp) w') (Q : World → Value → World → Prop)
    (hT : ∀ W, Ext [] w W → Calls Try.prog tf tcp W fun e w' => ∃ x, e = .returned x ∧ Q W x w') :
    Calls Try.prog 68 #[.func (.func tf) #[] tcp, .slice (some ⟨b, 0, none⟩) 2 2] w fun e w' => ∃ x W, e = .returned (.tuple #[x, .int .i64 0]) ∧ Ext [] w W ∧ Q W x w' := by
  have HT := Lib.hid hT
  clear hT
  have HK := Lib.hid hK
  clear hK
  have d0 := cell_of hb (j := 0) rfl
  have d1 := cell_of hb (j := 1) rfl
  have d2 := cell_of hb (j := 2) rfl
  have d3 := cell_of hb (j := 3) rfl
  have hbl : b < w.heap.size := lt_of_block hb
  have HN := Lib.hid hN
  clear hN hb
  go_enter Try.func68, Try.ntmps68
  go_wp2_with fail
  refine wp_scope_ahead 0 rfl ?_
  go_wp2_with fail
  refine wp_loop_rounds 3 ?_
  rw [rounds_succ]
  go_wp2_with fail
  refine (HN.out _ (by repeat (first | exact Ext.refl [] _ | exact hE1 | exact hE2 | refine Ext.alloc ?_ _))).mono ?_
  rintro e w' ⟨rfl, rfl⟩
  go_wp2_with fail
  rw [rounds_succ]
  go_wp2_with fail
  refine (HK.out _ (by repeat (first | exact Ext.refl [] _ | exact hE1 | exact hE2 | refine Ext.alloc ?_ _))).mono ?_
  rintro e w3 ⟨rfl, hE3⟩
  have H3 := Lib.hid ((((Ext.refl [] w).alloc (.cells #[.func (.func 58) #[v] #[], .int .i64 1] 131)).alloc (.cells #[.func (.func K) #[] lb, .int .i64 er] 131)).trans hE3)
  clear hE3 d0 d1 d2 d3 hbl
  go_wp2_with fail
  rw [rounds_succ]
  go_wp2_with fail
  refine (HT.out w3 H3.out).mono ?_
  rintro e w4 ⟨x, rfl, hQ⟩
  have HQ := Lib.hid hQ
  clear hQ
  go_wp2
  rw [jump_ret]
  go_ret2
  exact ⟨x, w3, rfl, H3.out, HQ.out⟩

set_option maxRecDepth 100000 in
set_option maxHeartbeats 1000000 in
theorem asked2_bool_nil (tf : Nat) (tcp : Array Value) (b : Nat) (v : Value) (K : Nat) (lb : Array Value) (er : Int) (w : World) (f0 : Nat × Nat) (hb : w.heap[b]? = some (.cells #[.func (.func 58) #[v] #[], .int .i64 1, .func (.func K) #[] lb, .int .i64 er] 131 f0))
    (hN : ∀ W, Ext [] w W → Calls Try.prog 58 #[v] W fun e w' => e = .returned (.bool true) ∧ W = w') :
    Calls Try.prog 79 #[.func (.func tf) #[] tcp, .slice (some ⟨b, 0, none⟩) 2 2] w fun e w' => e = .returned (.tuple #[.bool false, .int .i64 1]) ∧ Ext [] w w' := by
  have d0 := cell_of hb (j := 0) rfl
  have d1 := cell_of hb (j := 1) rfl
  have d2 := cell_of hb (j := 2) rfl
  have d3 := cell_of hb (j := 3) rfl
  have hbl : b < w.heap.size := lt_of_block hb
  have HN := Lib.hid hN
  clear hN hb
  go_enter Try.func79, Try.ntmps79
  go_wp2_with fail
  refine wp_scope_ahead 0 rfl ?_
  go_wp2_with fail
  refine wp_loop_rounds 3 ?_
  rw [rounds_succ]
  go_wp2_with fail
  refine (HN.out _ (by repeat (first | exact Ext.refl [] _ | exact hE1 | exact hE2 | refine Ext.alloc ?_ _))).mono ?_
  rintro e w' ⟨rfl, rfl⟩
  go_wp2
  go_step3
  simp only [Exit.inBlock, Exit.then]
  refine ⟨rfl, ?_⟩
  go_wp2
  rw [Exit.noGoto_ret]
  go_ret2
  exact ⟨rfl, by repeat (first | exact Ext.refl [] _ | refine Ext.alloc ?_ _)⟩

set_option maxRecDepth 100000 in
set_option maxHeartbeats 1000000 in
theorem asked2_bool_bad (tf : Nat) (tcp : Array Value) (b : Nat) (v : Value) (K : Nat) (lb : Array Value) (er : Int) (w : World) (f0 : Nat × Nat) (hb : w.heap[b]? = some (.cells #[.func (.func 58) #[v] #[], .int .i64 1, .func (.func K) #[] lb, .int .i64 er] 131 f0))
    (hN : ∀ W, Ext [] w W → Calls Try.prog 58 #[v] W fun e w' => e = .returned (.bool false) ∧ W = w') (hcf : ∀ w', (callFunc K lb).run Try.prog w' = .ok (.enter K lb) w')
    (hK : ∀ W, Ext [] w W → Calls Try.prog K lb W fun e w' => e = .returned (.bool true) ∧ Ext [] W w') :
    Calls Try.prog 79 #[.func (.func tf) #[] tcp, .slice (some ⟨b, 0, none⟩) 2 2] w fun e w' => e = .returned (.tuple #[.bool false, .int .i64 er]) ∧ Ext [] w w' := by
  have HK := Lib.hid hK
  clear hK
  have d0 := cell_of hb (j := 0) rfl
  have d1 := cell_of hb (j := 1) rfl
  have d2 := cell_of hb (j := 2) rfl
  have d3 := cell_of hb (j := 3) rfl
  have hbl : b < w.heap.size := lt_of_block hb
  have HN := Lib.hid hN
  clear hN hb
  go_enter Try.func79, Try.ntmps79
  go_wp2_with fail
  refine wp_scope_ahead 0 rfl ?_
  go_wp2_with fail
  refine wp_loop_rounds 3 ?_
  rw [rounds_succ]
  go_wp2_with fail
  refine (HN.out _ (by repeat (first | exact Ext.refl [] _ | exact hE1 | exact hE2 | refine Ext.alloc ?_ _))).mono ?_
  rintro e w' ⟨rfl, rfl⟩
  go_wp2_with fail
  rw [rounds_succ]
  go_wp2_with fail
  refine (HK.out _ (by repeat (first | exact Ext.refl [] _ | exact hE1 | exact hE2 | refine Ext.alloc ?_ _))).mono ?_
  rintro e w3 ⟨rfl, hE3⟩
  have H3 := Lib.hid hE3
  clear hE3
  go_wp2
  go_step3
  simp only [Exit.inBlock, Exit.then]
  refine ⟨rfl, ?_⟩
  go_wp2
  rw [Exit.noGoto_ret]
  go_ret2
  exact ⟨rfl, (((Ext.refl [] w).alloc _).alloc _).trans H3.out⟩

set_option maxRecDepth 100000 in
set_option maxHeartbeats 1000000 in
theorem asked2_bool_ok (tf : Nat) (tcp : Array Value) (b : Nat) (v : Value) (K : Nat) (lb : Array Value) (er : Int) (w : World) (f0 : Nat × Nat) (hb : w.heap[b]? = some (.cells #[.func (.func 58) #[v] #[], .int .i64 1, .func (.func K) #[] lb, .int .i64 er] 131 f0))
    (hN : ∀ W, Ext [] w W → Calls Try.prog 58 #[v] W fun e w' => e = .returned (.bool false) ∧ W = w') (hcf : ∀ w', (callFunc K lb).run Try.prog w' = .ok (.enter K lb) w')
    (hK : ∀ W, Ext [] w W → Calls Try.prog K lb W fun e w' => e = .returned (.bool false) ∧ Ext [] W w')
    (htf : ∀ w', (callFunc tf tcp).run Try.prog w' = .ok (.enter tf tcp) w') (Q : World → Value → World → Prop)
    (hT : ∀ W, Ext [] w W → Calls Try.prog tf tcp W fun e w' => ∃ x, e = .returned x ∧ Q W x w') :
    Calls Try.prog 79 #[.func (.func tf) #[] tcp, .slice (some ⟨b, 0, none⟩) 2 2] w fun e w' => ∃ x W, e = .returned (.tuple #[x, .int .i64 0]) ∧ Ext [] w W ∧ Q W x w' := by
  have HT := Lib.hid hT
  clear hT
  have HK := Lib.hid hK
  clear hK
  have d0 := cell_of hb (j := 0) rfl
  have d1 := cell_of hb (j := 1) rfl
  have d2 := cell_of hb (j := 2) rfl
  have d3 := cell_of hb (j := 3) rfl
  have hbl : b < w.heap.size := lt_of_block hb
  have HN := Lib.hid hN
  clear hN hb
  go_enter Try.func79, Try.ntmps79
  go_wp2_with fail
  refine wp_scope_ahead 0 rfl ?_
  go_wp2_with fail
  refine wp_loop_rounds 3 ?_
  rw [rounds_succ]
  go_wp2_with fail
  refine (HN.out _ (by repeat (first | exact Ext.refl [] _ | exact hE1 | exact hE2 | refine Ext.alloc ?_ _))).mono ?_
  rintro e w' ⟨rfl, rfl⟩
  go_wp2_with fail
  rw [rounds_succ]
  go_wp2_with fail
  refine (HK.out _ (by repeat (first | exact Ext.refl [] _ | exact hE1 | exact hE2 | refine Ext.alloc ?_ _))).mono ?_
  rintro e w3 ⟨rfl, hE3⟩
  have H3 := Lib.hid ((((Ext.refl [] w).alloc (.cells #[.func (.func 58) #[v] #[], .int .i64 1] 131)).alloc (.cells #[.func (.func K) #[] lb, .int .i64 er] 131)).trans hE3)
  clear hE3 d0 d1 d2 d3 hbl
  go_wp2_with fail
  rw [rounds_succ]
  go_wp2_with fail
  refine (HT.out w3 H3.out).mono ?_
  rintro e w4 ⟨x, rfl, hQ⟩
  have HQ := Lib.hid hQ
  clear hQ
  go_wp2
  rw [jump_ret]
  go_ret2
  exact ⟨x, w3, rfl, H3.out, HQ.out⟩

end Go.Proofs.Ytfojmjkcjdehaaa
