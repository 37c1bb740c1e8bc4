/- TraceLong: the walk. -/
import Derived.Test.YtmfbgkcphiomaaaTrP
import Derived.Test.YtmfbgkcphiomaaaTrN
namespace Go.Proofs.Ytmfbgkcphiomaaa
open Go Go.RowKit Go.Shelf
attribute [local go_sem] Oper.semAt_some

/-- a first touch is another one -/
theorem TcOwn.set0 {w : World} {base g n cap : Nat} {L : List Tch} (h : TcOwn w base (.slice (some ⟨g, 0, none⟩) n cap) L) (hn : L.length = n) (h0 : 0 < n) (t : Tch) :
    TcOwn (((w.setCell ⟨g, 0, none⟩ (.int .i64 t.kd)).setCell ⟨g, 1, none⟩ (.int .i64 t.at')).setCell ⟨g, 2, none⟩ (.int .u64 t.wd)) base (.slice (some ⟨g, 0, none⟩) n cap) (L.set 0 t) := by
  unfold TcOwn at h ⊢
  rw [hn] at h
  rw [List.length_set, hn]
  obtain ⟨hB, hb, hm⟩ := RowB.of_owns (tR_ok _ _) h
  have h1 := hB.set (fun i hi => (tR_ok n L).len i hi) h0 (vs := tchR t) rfl
  have h2 : RowB (w.setCells g (0 * 3) (tchR t)) g 45 cap 3 n (tR (L.set 0 t)) := h1.less (Nat.le_refl _) (fun i hi => by
    unfold tR
    by_cases hi0 : i = 0
    · subst hi0
      rw [if_pos rfl, List.getD_eq_getElem?_getD, List.getElem?_set_self (by omega)]
      rfl
    · rw [if_neg hi0, List.getD_eq_getElem?_getD (l := L.set 0 t), List.getElem?_set_ne (fun e => hi0 e.symm), ← List.getD_eq_getElem?_getD])
  exact h2.owns (tR_ok _ _) hm hb
theorem TcOwn.row {w : World} {base g n cap : Nat} {L : List Tch} (h : TcOwn w base (.slice (some ⟨g, 0, none⟩) n cap) L) (hn : L.length = n) : (∃ cur, w.heap[g]? = some (.cells cur 45 (0, 0))) ∧ base ≤ g := by
  unfold TcOwn at h
  rw [hn] at h
  obtain ⟨⟨_, cur, h1, _⟩, hb, _⟩ := RowB.of_owns (tR_ok _ _) h
  exact ⟨⟨cur, h1⟩, hb⟩
theorem TcOwn.form {w : World} {base n : Nat} {v : Value} {L : List Tch} (h : TcOwn w base v L) (hn : L.length = n) (h0 : 0 < n) : ∃ g cap, v = .slice (some ⟨g, 0, none⟩) n cap := by
  unfold TcOwn at h
  rcases owns_form h with ⟨_, h1, _⟩ | ⟨g, cap, h1, _⟩
  · omega
  · rw [hn] at h1
    exact ⟨g, cap, h1⟩
/-- so many fences -/
def repF (n : Nat) : List Tch := List.replicate n ⟨4, 0, 0⟩
theorem repF_len (n : Nat) : (repF n).length = n := List.length_replicate
theorem repF_succ (n : Nat) : repF (n + 1) = repF n ++ [⟨4, 0, 0⟩] := List.replicate_succ'
theorem repF_set {n : Nat} (h : 0 < n) (x : Tch) : (repF n).set 0 x = lonG x n := by
  obtain ⟨m, rfl⟩ : ∃ m, n = m + 1 := ⟨n - 1, by omega⟩
  unfold repF lonG
  rw [List.replicate_succ, List.set_cons_zero, Nat.add_sub_cancel]
theorem lonG_set (x y : Tch) (n : Nat) : (lonG x n).set 0 y = lonG y n := rfl

set_option maxRecDepth 100000 in
set_option maxHeartbeats 8000000 in
theorem tr_long (more : Int) (stores : Bool) (w : World) (_ : -9223372036854775808 ≤ more ∧ more ≤ 9223372036854775807) :
    Calls Try.prog 5 #[.int .i64 more, .bool stores] w fun e w' => e = .returned (.bool true) ∧ Ext [] w w' := by
  by_cases hout : more < -3 ∨ more > 2
  · rcases hout with h | h
    · have hd : more < -3 := h
      go_enter Try.func5, Try.ntmps5
      go_wp2_with fail
      refine (law05_works _).mono ?_
      rintro e w1 ⟨rfl, hE⟩
      go_wp2
      go_ret
      exact ⟨rfl, hE⟩
    · have hd : ¬ more < -3 := by omega
      have hd2 : (2 : Int) < more := h
      clear h
      go_enter Try.func5, Try.ntmps5
      go_wp2_with fail
      refine (law05_works _).mono ?_
      rintro e w1 ⟨rfl, hE⟩
      go_wp2
      go_ret
      exact ⟨rfl, hE⟩
  have hd : ¬ more < -3 := by omega
  have hd2 : ¬ (2 : Int) < more := by omega
  obtain ⟨n, hnn⟩ : ∃ n : Nat, 4096 + more = (n : Int) := ⟨(4096 + more).toNat, by omega⟩
  have hw1 : wrap64 (4096 + more) = (n : Int) := by rw [← hnn]; exact IntWalk.wrap64_in _ (by omega)
  have hw2 : wrap64 more = more := IntWalk.wrap64_in _ (by omega)
  have HN : Hid (4093 ≤ n ∧ n ≤ 4098 ∧ 4096 + more = (n : Int)) := ⟨by omega, by omega, hnn⟩
  obtain ⟨i0, hi, hz0, hz1, hz2⟩ := info_parts infoTch
  have HI := Lib.hid (And.intro hi (And.intro hz0 (And.intro hz1 hz2)))
  obtain ⟨x, hx⟩ : ∃ x : Tch, (if stores = true then ⟨2, 5, 1⟩ else ⟨1, 5, 0⟩) = x := ⟨_, rfl⟩
  have hxr : x.right = true := by rw [← hx]; split <;> rfl
  obtain ⟨lc1, lc2⟩ := lonG_clo (n := n) (by omega) stores
  rw [hx] at lc1 lc2
  obtain ⟨m, hm⟩ : ∃ m, (clo (lonG x n)).1.length = m := ⟨_, rfl⟩
  obtain ⟨er, her⟩ : ∃ er, (clo (lonG x n)).2 = er := ⟨_, rfl⟩
  rw [her] at lc1
  rw [hm] at lc2
  have hcases : (decide (0 < more) = true ∧ er = 3 ∧ m = 0) ∨ (decide (0 < more) = false ∧ stores = true ∧ decide (-2 < more) = true ∧ er = 3 ∧ m = 0) ∨ (decide (0 < more) = false ∧ (stores = true → decide (-2 < more) = false) ∧ er = 0 ∧ 0 < m) := by
    by_cases h1 : 0 < more
    · have h2 : 4096 < n ∨ (stores = true ∧ 4094 < n) := .inl (by omega)
      rw [if_pos h2] at lc1
      exact .inl ⟨decide_eq_true h1, lc1, lc2.2 h2⟩
    · by_cases h3 : stores = true ∧ -2 < more
      · have h2 : 4096 < n ∨ (stores = true ∧ 4094 < n) := .inr ⟨h3.1, by omega⟩
        rw [if_pos h2] at lc1
        exact .inr (.inl ⟨decide_eq_false h1, h3.1, decide_eq_true h3.2, lc1, lc2.2 h2⟩)
      · have h2 : ¬ (4096 < n ∨ (stores = true ∧ 4094 < n)) := fun h => h.elim (fun h => by omega) (fun h => h3 ⟨h.1, by omega⟩)
        rw [if_neg h2] at lc1
        refine .inr (.inr ⟨decide_eq_false h1, fun h4 => decide_eq_false (fun h5 => h3 ⟨h4, h5⟩), lc1, ?_⟩)
        rcases Nat.eq_zero_or_pos m with h | h
        · exact absurd (lc2.1 h) h2
        · exact h
  have HX := Lib.hid (And.intro hx (And.intro hxr (And.intro hm (And.intro her hcases))))
  clear hout hnn hi hz0 hz1 hz2 hx hxr lc1 lc2 hm her hcases
  go_enter Try.func5, Try.ntmps5
  go_wp2
  clear hd hd2
  go_loopg [5, 6] n (fun cnt v i wr => ∃ j : Nat, i = .int .i64 j ∧ j + cnt = n ∧ TcOwn wr w.heap.size v (repF j) ∧ Ext [] w wr)
  case atStart => exact ⟨0, rfl, by omega, TcOwn.nil _ _, Ext.refl _ _⟩
  case round =>
    obtain ⟨j, rfl, hjk, hO, hE⟩ := hrel
    have hlen := repF_len j
    by_cases hlt : j < n
    · obtain ⟨vo, vcap, rfl, _, _⟩ := hO.at (N := 0)
      have hO2 := hO
      unfold TcOwn at hO2
      rw [hlen] at hO2 ⊢
      have hjn : (j : Int) < (n : Int) := by omega
      have hwj : wrap64 ((j : Int) + 1) = (j : Int) + 1 := IntWalk.wrap64_in _ (by have := HN.out.2.1; clear hw1 hw2; omega)
      have HJ := Lib.hid (And.intro hjk (And.intro hlt (And.intro hO2 (And.intro hE hlen))))
      clear hjk hlt hO hO2 hE hlen
      go_wp2_with fail
      refine (la_fence _).mono ?_
      rintro e w2 ⟨rfl, hE2⟩
      have hb1 := World.alloc_heap_new w2 (.cells #[.int .i64 4, .int .i64 0, .int .u64 0] 45)
      have HB := Lib.hid (And.intro hb1 (And.intro (hE2.alloc (.cells #[.int .i64 4, .int .i64 0, .int .u64 0] 45)) (And.intro HJ.out.2.2.2.1.size hE2.size)))
      clear hb1 hE2
      go_wp2_with (at_builtin; refine wpList_append_any rfl _ _ 22 rfl w.heap.size 45 i0 _ 3 24 Try.underlying22 HI.out.1 HI.out.2.1 HI.out.2.2.1 HI.out.2.2.2 rfl (by omega) (.slice vo j vcap) j _ rfl (owns_ext HJ.out.2.2.1 HB.out.2.1 (fun _ _ => by simp)) (some ⟨w2.heap.size, 0, none⟩) 1 1 (tchR ⟨4, 0, 0⟩) rfl (tch_src ⟨4, 0, 0⟩ HB.out.1) ?c1 ?c2 ?c3 ?_)
      case c1 => have h1 := HJ.out.2.1; have h2 := HN.out.2.1; clear hw1 hw2 hwj; unfold maxLen; omega
      case c2 => have h1 := HJ.out.2.1; have h2 := HN.out.2.1; clear hw1 hw2 hwj; omega
      case c3 => have h1 := HB.out.2.2; clear hw1 hw2 hwj; simp; omega
      intro v1 wA ho1 hEA hbA
      have HR : Hid (TcOwn wA w.heap.size v1 (repF (j + 1)) ∧ Ext [] w wA) := by
        refine ⟨?_, (HJ.out.2.2.2.1.trans HB.out.2.1).trans' hEA (fun b hb => .inr (HJ.out.2.2.1.lt b (by simpa using hb)).1)⟩
        rw [repF_succ]
        exact TcOwn.snoc ⟨4, 0, 0⟩ HJ.out.2.2.2.2 ho1
      clear ho1 hEA hbA
      go_wp2
      go_roundg (n - (j + 1))
      case measure => have := HJ.out.1; have := HJ.out.2.1; clear hw1 hw2 hwj; omega
      case rel => exact ⟨j + 1, by first | (rw [hwj]; rfl) | rfl, by have := HJ.out.1; have := HJ.out.2.1; clear hw1 hw2 hwj; omega, HR.out⟩
    · obtain rfl : j = n := by clear hw1 hw2; omega
      have hjn : ¬ ((j : Int) < (j : Int)) := by omega
      have hn0 : 0 < j := by have := HN.out.1; clear hw1 hw2; omega
      obtain ⟨g, gc, rfl⟩ := hO.form hlen hn0
      obtain ⟨⟨cur, hcur⟩, hg⟩ := hO.row hlen
      have f0 := free_of hcur 0
      have f1 := free_of hcur 1
      have f2 := free_of hcur 2
      obtain ⟨_, _, hT0, hT, _⟩ := hO.at (N := 0)
      rw [hlen] at hT0
      injection hT0 with e1 e2 e3
      subst e1
      obtain ⟨_, _, e4, y0, y1, y2⟩ := hT.cells (i := 0) (by rw [hlen]; exact hn0)
      injection e4 with e4
      injection e4 with e5 e6
      subst e5 e6
      simp only [Nat.zero_mul, Nat.zero_add] at y0 y1 y2
      have hset := hO.set0 hlen hn0 ⟨1, 5, 0⟩
      rw [repF_set hn0] at hset
      have HO0 := Lib.hid (And.intro hset (And.intro hE hg))
      have hj0 : (0 : Int) < (j : Int) := by clear hw1 hw2; omega
      have HN0 := Lib.hid hn0
      clear hjk hlt hO hE hcur hT e3 hset hn0 hg hlen
      obtain ⟨W1, hW1⟩ : ∃ W1, ((wr.setCell ⟨g, 0, none⟩ (.int .i64 1)).setCell ⟨g, 1, none⟩ (.int .i64 5)).setCell ⟨g, 2, none⟩ (.int .u64 0) = W1 := ⟨_, rfl⟩
      have HO1 : Hid (TcOwn W1 w.heap.size (.slice (some ⟨g, 0, none⟩) j gc) (lonG ⟨1, 5, 0⟩ j) ∧ Ext [] w W1) := by
        rw [← hW1]
        refine ⟨HO0.out.1, ?_⟩
        exact Ext.setCell (Ext.setCell (Ext.setCell HO0.out.2.1 (.inr HO0.out.2.2) _) (.inr HO0.out.2.2) _) (.inr HO0.out.2.2) _
      have HWE := Lib.hid hW1
      clear hW1
      cases stores with
      | false =>
        have hxe : x = ⟨1, 5, 0⟩ := by rw [← HX.out.1]; rfl
        rw [← hxe] at HO1
        go_upto_region 11 with fail
        try rw [HWE.out]
        clear HO0 HWE f0 f1 f2 y0 y1 y2 hxe
        obtain ⟨_, _, hT0, hT, _⟩ := HO1.out.1.at (N := 0)
        rw [lonG_len x HN0.out] at hT0
        injection hT0 with e1 e2 e3
        subst e1
        have hClo := tr_Closed 0 _ gc (lonG x j) W1 hT (by rw [lonG_len x HN0.out]; have := HN.out.2.1; clear hw1 hw2; omega)
        have hChk := fun W (hE : Ext [] W1 W) => tc_Check 0 _ gc (lonG x j) W (hT.ext0 hE) (by rw [lonG_len x HN0.out]; have := HN.out.2.1; clear hw1 hw2; omega)
        have hCht := fun W (hE : Ext [] W1 W) => ts_Check 0 _ gc (lonG x j) W (hT.ext0 hE) (by rw [lonG_len x HN0.out]; have := HN.out.2.1; clear hw1 hw2; omega)
        rw [lonG_len x HN0.out] at hClo hChk hCht
        obtain ⟨c, hc⟩ : ∃ c, tcheck (lonG x j) = c := ⟨_, rfl⟩
        rw [hc] at hChk hCht
        have HC := Lib.hid hClo
        have HK := Lib.hid hChk
        have HT := Lib.hid hCht
        have gc0 : (c == c) = true := by simp
        clear hClo hChk hCht hT e3 hc hj0
        go_wp2_with fail
        refine HC.out.mono ?_
        rintro e w5 ⟨v, rfl, hE5, hO5⟩
        obtain ⟨co, cc, rfl, _, _⟩ := hO5.at (N := 0)
        rw [HX.out.2.2.1, HX.out.2.2.2.1]
        have H5 := Lib.hid hE5
        clear hE5 hO5
        rcases HX.out.2.2.2.2 with ⟨h1, rfl, rfl⟩ | ⟨h1, h2, h3, rfl, rfl⟩ | ⟨h1, h2, rfl, h4⟩
        · skip
          go_wp2_with fail
          refine (HK.out _ H5.out).mono ?_
          rintro e w6 ⟨rfl, hE6⟩
          have H6 := Lib.hid (H5.out.trans hE6)
          clear hE6
          go_wp2_with (go_at_call 13; refine (la_num _ _).mono ?_; rintro e w' ⟨rfl, rfl⟩)
          refine (HT.out _ H6.out).mono ?_
          rintro e w7 ⟨rfl, hE7⟩
          have H7 := Lib.hid (HO1.out.2.trans (H6.out.trans hE7))
          clear hE7
          go_wp2_with (go_at_call 13; refine (la_num _ _).mono ?_; rintro e w' ⟨rfl, rfl⟩)
          refine (law05_works _).mono ?_
          rintro e w8 ⟨rfl, hE⟩
          go_wp2
          go_ret
          exact ⟨rfl, H7.out.trans hE⟩
        · cases h2
        · skip
          clear h2
          have h6 : (0 : Int) < (m : Int) := by clear hw1 hw2; omega
          clear h4
          go_wp2_with fail
          refine (HK.out _ H5.out).mono ?_
          rintro e w6 ⟨rfl, hE6⟩
          have H6 := Lib.hid (H5.out.trans hE6)
          clear hE6
          go_wp2_with (go_at_call 13; refine (la_num _ _).mono ?_; rintro e w' ⟨rfl, rfl⟩)
          refine (HT.out _ H6.out).mono ?_
          rintro e w7 ⟨rfl, hE7⟩
          have H7 := Lib.hid (HO1.out.2.trans (H6.out.trans hE7))
          clear hE7
          go_wp2_with (go_at_call 13; refine (la_num _ _).mono ?_; rintro e w' ⟨rfl, rfl⟩)
          refine (law05_works _).mono ?_
          rintro e w8 ⟨rfl, hE⟩
          go_wp2
          go_ret
          exact ⟨rfl, H7.out.trans hE⟩
      | true =>
        have hxe : x = ⟨2, 5, 1⟩ := by rw [← HX.out.1]; rfl
        go_wp2_with fail
        try rw [HWE.out]
        clear HO0 HWE f0 f1 f2 y0 y1 y2
        refine (la_store _ _ _).mono ?_
        rintro e w3 ⟨rfl, hE3⟩
        have hO3 := HO1.out.1.ext hE3
        have hlen3 := lonG_len ⟨1, 5, 0⟩ HN0.out
        obtain ⟨⟨cur, hcur⟩, hg⟩ := hO3.row hlen3
        have f0 := free_of hcur 0
        have f1 := free_of hcur 1
        have f2 := free_of hcur 2
        obtain ⟨_, _, hT0, hT, _⟩ := hO3.at (N := 0)
        rw [hlen3] at hT0
        injection hT0 with e1 e2 e3
        subst e1
        obtain ⟨_, _, e4, y0, y1, y2⟩ := hT.cells (i := 0) (by rw [hlen3]; exact HN0.out)
        injection e4 with e4
        injection e4 with e5 e6
        subst e5 e6
        simp only [Nat.zero_mul, Nat.zero_add] at y0 y1 y2
        have hset := hO3.set0 hlen3 HN0.out ⟨2, 5, 1⟩
        rw [lonG_set] at hset
        replace hset : TcOwn (((w3.setCell ⟨g, 0, none⟩ (.int .i64 2)).setCell ⟨g, 1, none⟩ (.int .i64 5)).setCell ⟨g, 2, none⟩ (.int .u64 1)) w.heap.size (.slice (some ⟨g, 0, none⟩) j gc) (lonG x j) := by rw [hxe]; exact hset
        have HO5 := Lib.hid (And.intro hset (And.intro (HO1.out.2.trans hE3) hg))
        clear hO3 hE3 hcur hT e3 hset hg hlen3 HO1 hxe
        obtain ⟨W1, hW1⟩ : ∃ W1, ((w3.setCell ⟨g, 0, none⟩ (.int .i64 2)).setCell ⟨g, 1, none⟩ (.int .i64 5)).setCell ⟨g, 2, none⟩ (.int .u64 1) = W1 := ⟨_, rfl⟩
        have HO1 : Hid (TcOwn W1 w.heap.size (.slice (some ⟨g, 0, none⟩) j gc) (lonG x j) ∧ Ext [] w W1) := by
          rw [← hW1]
          refine ⟨HO5.out.1, ?_⟩
          exact Ext.setCell (Ext.setCell (Ext.setCell HO5.out.2.1 (.inr HO5.out.2.2) _) (.inr HO5.out.2.2) _) (.inr HO5.out.2.2) _
        have HWE := Lib.hid hW1
        clear hW1
        go_upto_region 11 with fail
        try rw [HWE.out]
        clear HO5 HWE f0 f1 f2 y0 y1 y2
        obtain ⟨_, _, hT0, hT, _⟩ := HO1.out.1.at (N := 0)
        rw [lonG_len x HN0.out] at hT0
        injection hT0 with e1 e2 e3
        subst e1
        have hClo := tr_Closed 0 _ gc (lonG x j) W1 hT (by rw [lonG_len x HN0.out]; have := HN.out.2.1; clear hw1 hw2; omega)
        have hChk := fun W (hE : Ext [] W1 W) => tc_Check 0 _ gc (lonG x j) W (hT.ext0 hE) (by rw [lonG_len x HN0.out]; have := HN.out.2.1; clear hw1 hw2; omega)
        have hCht := fun W (hE : Ext [] W1 W) => ts_Check 0 _ gc (lonG x j) W (hT.ext0 hE) (by rw [lonG_len x HN0.out]; have := HN.out.2.1; clear hw1 hw2; omega)
        rw [lonG_len x HN0.out] at hClo hChk hCht
        obtain ⟨c, hc⟩ : ∃ c, tcheck (lonG x j) = c := ⟨_, rfl⟩
        rw [hc] at hChk hCht
        have HC := Lib.hid hClo
        have HK := Lib.hid hChk
        have HT := Lib.hid hCht
        have gc0 : (c == c) = true := by simp
        clear hClo hChk hCht hT e3 hc hj0
        go_wp2_with fail
        refine HC.out.mono ?_
        rintro e w5 ⟨v, rfl, hE5, hO5⟩
        obtain ⟨co, cc, rfl, _, _⟩ := hO5.at (N := 0)
        rw [HX.out.2.2.1, HX.out.2.2.2.1]
        have H5 := Lib.hid hE5
        clear hE5 hO5
        rcases HX.out.2.2.2.2 with ⟨h1, rfl, rfl⟩ | ⟨h1, h2, h3, rfl, rfl⟩ | ⟨h1, h2, rfl, h4⟩
        · skip
          go_wp2_with fail
          refine (HK.out _ H5.out).mono ?_
          rintro e w6 ⟨rfl, hE6⟩
          have H6 := Lib.hid (H5.out.trans hE6)
          clear hE6
          go_wp2_with (go_at_call 13; refine (la_num _ _).mono ?_; rintro e w' ⟨rfl, rfl⟩)
          refine (HT.out _ H6.out).mono ?_
          rintro e w7 ⟨rfl, hE7⟩
          have H7 := Lib.hid (HO1.out.2.trans (H6.out.trans hE7))
          clear hE7
          go_wp2_with (go_at_call 13; refine (la_num _ _).mono ?_; rintro e w' ⟨rfl, rfl⟩)
          refine (law05_works _).mono ?_
          rintro e w8 ⟨rfl, hE⟩
          go_wp2
          go_ret
          exact ⟨rfl, H7.out.trans hE⟩
        · skip
          go_wp2_with fail
          refine (HK.out _ H5.out).mono ?_
          rintro e w6 ⟨rfl, hE6⟩
          have H6 := Lib.hid (H5.out.trans hE6)
          clear hE6
          go_wp2_with (go_at_call 13; refine (la_num _ _).mono ?_; rintro e w' ⟨rfl, rfl⟩)
          refine (HT.out _ H6.out).mono ?_
          rintro e w7 ⟨rfl, hE7⟩
          have H7 := Lib.hid (HO1.out.2.trans (H6.out.trans hE7))
          clear hE7
          go_wp2_with (go_at_call 13; refine (la_num _ _).mono ?_; rintro e w' ⟨rfl, rfl⟩)
          refine (law05_works _).mono ?_
          rintro e w8 ⟨rfl, hE⟩
          go_wp2
          go_ret
          exact ⟨rfl, H7.out.trans hE⟩
        · skip
          have h5 := h2 (by trivial)
          clear h2
          have h6 : (0 : Int) < (m : Int) := by clear hw1 hw2; omega
          clear h4
          go_wp2_with fail
          refine (HK.out _ H5.out).mono ?_
          rintro e w6 ⟨rfl, hE6⟩
          have H6 := Lib.hid (H5.out.trans hE6)
          clear hE6
          go_wp2_with (go_at_call 13; refine (la_num _ _).mono ?_; rintro e w' ⟨rfl, rfl⟩)
          refine (HT.out _ H6.out).mono ?_
          rintro e w7 ⟨rfl, hE7⟩
          have H7 := Lib.hid (HO1.out.2.trans (H6.out.trans hE7))
          clear hE7
          go_wp2_with (go_at_call 13; refine (la_num _ _).mono ?_; rintro e w' ⟨rfl, rfl⟩)
          refine (law05_works _).mono ?_
          rintro e w8 ⟨rfl, hE⟩
          go_wp2
          go_ret
          exact ⟨rfl, H7.out.trans hE⟩
end Go.Proofs.Ytmfbgkcphiomaaa
