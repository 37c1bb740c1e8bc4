/- Touches: the document's Right, Check, Same; slices.Equal, Clone. -/
import Derived.Test.YtmfbgkcphiomaaaTcB
import Derived.RegionTactic
import Derived.Deep.QuietTactic
import Derived.BigQuiet
namespace Go.Proofs.Ytmfbgkcphiomaaa
open Go Go.RowKit Go.Shelf
attribute [local go_sem] Oper.semAt_some

theorem right_12 {k : Int} (h : k = 1 ∨ k = 2) (a x : Int) : Tch.right ⟨k, a, x⟩ = (decide (0 ≤ a) && decide (a < 8192)) := by
  unfold Tch.right
  rw [show bndT k = (8192, true) from by unfold bndT; rw [if_pos h]]
  simp
theorem right_3 (a x : Int) : Tch.right ⟨3, a, x⟩ = (decide (0 ≤ a) && decide (a < 1024) && x == 0) := rfl
theorem right_e {k : Int} (h1 : ¬ k = 1) (h2 : ¬ k = 2) (h3 : ¬ k = 3) (a x : Int) : Tch.right ⟨k, a, x⟩ = (k == 4 && a == 0 && x == 0) := by
  unfold Tch.right
  by_cases h4 : k = 4
  · subst h4
    show (decide (0 ≤ a) && decide (a < 1) && (false || x == 0)) = _
    by_cases ha : a = 0
    · subst ha
      simp
    · rw [show (decide (0 ≤ a) && decide (a < 1)) = false from by simp; omega, show (a == 0) = false from by simpa using ha]
      simp
  · rw [show bndT k = (0, false) from by unfold bndT; rw [if_neg (by omega), if_neg h3, if_neg h4]]
    show (decide (0 ≤ a) && decide (a < 0) && (false || x == 0)) = _
    rw [show (decide (0 ≤ a) && decide (a < 0)) = false from by simp, show (k == 4) = false from by simpa using h4]
    simp

set_option maxRecDepth 100000 in
set_option maxHeartbeats 1600000 in
theorem ts_Right (k a x : Int) (w : World) : Calls Try.prog 32 #[.agg #[.int .i64 k, .int .i64 a, .int .u64 x]] w fun e w' => e = .returned (.bool (Tch.right ⟨k, a, x⟩)) ∧ Ext [] w w' := by
  obtain ⟨A, g0⟩ : ∃ A, decide (0 ≤ a) = A := ⟨_, rfl⟩
  obtain ⟨C, g2⟩ : ∃ C, (x == 0) = C := ⟨_, rfl⟩
  by_cases h1 : k = 1
  · obtain ⟨B, g1⟩ : ∃ B, decide (a < 8192) = B := ⟨_, rfl⟩
    rw [right_12 (.inl h1), g0, g1]
    subst h1
    cases A <;> cases B
    all_goals
      go_enter Try.func32, Try.ntmps32
      go_wp2
      go_ret
      exact ⟨rfl, (Ext.refl _ _).alloc _⟩
  by_cases h2 : k = 2
  · obtain ⟨B, g1⟩ : ∃ B, decide (a < 8192) = B := ⟨_, rfl⟩
    rw [right_12 (.inr h2), g0, g1]
    subst h2
    cases A <;> cases B
    all_goals
      go_enter Try.func32, Try.ntmps32
      go_wp2
      go_ret
      exact ⟨rfl, (Ext.refl _ _).alloc _⟩
  by_cases h3 : k = 3
  · obtain ⟨B, g1⟩ : ∃ B, decide (a < 1024) = B := ⟨_, rfl⟩
    subst h3
    rw [right_3, g0, g1, g2]
    cases A <;> cases B <;> cases C
    all_goals
      go_enter Try.func32, Try.ntmps32
      go_wp2
      go_ret
      exact ⟨rfl, (Ext.refl _ _).alloc _⟩
  obtain ⟨B, g1⟩ : ∃ B, (a == 0) = B := ⟨_, rfl⟩
  obtain ⟨D, g4⟩ : ∃ D, (k == 4) = D := ⟨_, rfl⟩
  rw [right_e h1 h2 h3, g1, g2, g4]
  have e1 : (k == 1) = false := by simpa using h1
  have e2 : (k == 2) = false := by simpa using h2
  have e3 : (k == 3) = false := by simpa using h3
  clear h1 h2 h3 g0
  cases D <;> cases B <;> cases C
  all_goals
    go_enter Try.func32, Try.ntmps32
    go_wp2
    go_ret
    exact ⟨rfl, (Ext.refl _ _).alloc _⟩

set_option maxRecDepth 100000 in
set_option maxHeartbeats 1000000 in
theorem ts_Check (N : Nat) (ao : Option Addr) (cap : Nat) (L : List Tch) (w : World) (hp : TcAt w N ao L) (hn : L.length ≤ 9223372036854775807) :
    Calls Try.prog 12 #[.slice ao L.length cap] w fun e w' => e = .returned (.int .i64 (tcheck L)) ∧ Ext [] w w' := by
  have HP := Lib.hid hp
  obtain ⟨n, hnl⟩ : ∃ n, L.length = n := ⟨_, rfl⟩
  have HN := Lib.hid hnl
  rw [hnl] at hn ⊢
  clear hp hnl
  go_enter Try.func12, Try.ntmps12
  go_wp2
  go_loopg [3] n (fun k i wr => ∃ j : Nat, i = .int .i64 j ∧ j + k = n ∧ Ext [] w wr ∧ ∀ i, i < j → (L.getD i tch0).right = true)
  case atStart => exact ⟨0, rfl, by omega, Ext.refl _ _, fun i hi => absurd hi (Nat.not_lt_zero _)⟩
  case round =>
    obtain ⟨j, rfl, hjk, hE, hno⟩ := hrel
    have HR := Lib.hid (And.intro hE hno)
    clear hE hno
    by_cases hlt : j < n
    · obtain ⟨b, off, rfl, c0, c1, c2⟩ := (HP.out.ext0 HR.out.1).cells (i := j) (by rw [HN.out]; exact hlt)
      have hjn : (j : Int) < (n : Int) := by omega
      have hj0 : (0 : Int) ≤ (j : Int) := by omega
      have hwj : wrap64 ((j : Int) + 1) = (j : Int) + 1 := IntWalk.wrap64_in _ (by omega)
      have HJ := Lib.hid (And.intro hjk hlt)
      clear hjk hlt hn
      obtain ⟨q, hq⟩ : ∃ q, q = L.getD j tch0 := ⟨_, rfl⟩
      rw [← hq] at c0 c1 c2
      have HC := Lib.hid (ts_Right q.kd q.at' q.wd wr)
      have HQ := Lib.hid hq
      clear hq
      cases hpq : Tch.right ⟨q.kd, q.at', q.wd⟩ with
      | true =>
        rw [hpq] at HC
        have HPQ := Lib.hid hpq
        clear hpq
        go_wp2_with fail
        refine HC.out.mono ?_
        rintro e W2 ⟨rfl, hE2⟩
        go_wp2
        go_roundg (n - (j + 1))
        case measure => have := HJ.out; omega
        case rel =>
          refine ⟨j + 1, by first | (rw [hwj]; rfl) | rfl, by have := HJ.out; omega, HR.out.1.trans hE2, fun i hi => ?_⟩
          rcases Nat.lt_succ_iff_lt_or_eq.1 hi with h | h
          · exact HR.out.2 i h
          · rw [h, ← HQ.out]; exact HPQ.out
      | false =>
        rw [hpq] at HC
        have HPQ := Lib.hid hpq
        clear hpq
        go_wp2_with fail
        refine HC.out.mono ?_
        rintro e W2 ⟨rfl, hE2⟩
        go_wp2
        go_ret
        refine ⟨?_, HR.out.1.trans hE2⟩
        have : L.all Tch.right = false := all_false (i := j) (by have := HJ.out; have := HN.out; omega) (by rw [← HQ.out]; exact HPQ.out)
        unfold tcheck
        rw [this]
        rfl
    · have hd : decide (j < n) = false := by simpa using hlt
      have hjn : ¬ ((j : Int) < (n : Int)) := by omega
      have HJ := Lib.hid (And.intro hjk hlt)
      clear hlt
      have HA : Hid (L.all Tch.right = true) := take_all (fun i hi => HR.out.2 i (by have := HN.out; have := HJ.out; omega))
      clear hjk hn
      by_cases hbig : 4096 < n
      · have hd2 : decide ((4096 : Int) < (n : Int)) = true := by simp; omega
        have HB := Lib.hid hbig
        clear hbig
        go_wp2
        go_ret
        refine ⟨?_, HR.out.1⟩
        unfold tcheck
        rw [if_pos HA.out, HN.out, if_pos HB.out]
        rfl
      · have hd2 : decide ((4096 : Int) < (n : Int)) = false := by simp; omega
        have HB := Lib.hid hbig
        clear hbig
        go_wp2
        go_ret
        refine ⟨?_, HR.out.1⟩
        unfold tcheck
        rw [if_pos HA.out, HN.out, if_neg HB.out]
        rfl

theorem neTch (k a x k' a' x' : Int) (w : World) : (binOp .neq 45 (.agg #[.int .i64 k, .int .i64 a, .int .u64 x]) (.agg #[.int .i64 k', .int .i64 a', .int .u64 x'])).run Try.prog w = .ok (.bool (!(k == k' && (a == a' && x == x')))) w := by
  have u3 := Try.underlying3
  have u4 := Try.underlying39
  have u5 := Try.underlying43
  have hS : Try.prog.underlying 45 = some (.struct (Try.prog.fieldsOf 45)) := by kernel_rfl
  have hp : Try.prog.stoodInHeld 45 = false := by kernel_rfl
  rw [run_neq_struct, show (10000 : Nat) = 9999 + 1 from rfl, run_equalIn_agg w 9999 45 _ _ hS hp]
  simp only [Program.fieldsOf, Try.underlying45]
  go_simp
  by_cases h1 : k = k' <;> by_cases h2 : a = a' <;> by_cases h3 : x = x' <;> simp [h1, h2, h3]
theorem eqTch (k a x k' a' x' : Int) (w : World) : (binOp .eql 45 (.agg #[.int .i64 k, .int .i64 a, .int .u64 x]) (.agg #[.int .i64 k', .int .i64 a', .int .u64 x'])).run Try.prog w = .ok (.bool (k == k' && (a == a' && x == x'))) w := by
  have u3 := Try.underlying3
  have u4 := Try.underlying39
  have u5 := Try.underlying43
  have hS : Try.prog.underlying 45 = some (.struct (Try.prog.fieldsOf 45)) := by kernel_rfl
  have hp : Try.prog.stoodInHeld 45 = false := by kernel_rfl
  rw [run_eql_struct, show (10000 : Nat) = 9999 + 1 from rfl, run_equalIn_agg w 9999 45 _ _ hS hp]
  simp only [Program.fieldsOf, Try.underlying45]
  go_simp
  by_cases h1 : k = k' <;> by_cases h2 : a = a' <;> by_cases h3 : x = x' <;> simp [h1, h2, h3]
theorem tch_beq (s t : Tch) : (s.kd == t.kd && (s.at' == t.at' && s.wd == t.wd)) = decide (s = t) := by
  obtain ⟨k, a, x⟩ := s
  obtain ⟨k', a', x'⟩ := t
  rw [Bool.eq_iff_iff]
  simp
theorem getD_eq_all {A B : List Tch} (hl : A.length = B.length) (h : ∀ i, i < A.length → A.getD i tch0 = B.getD i tch0) : A = B := by
  refine List.ext_getElem hl (fun i h1 h2 => ?_)
  have := h i h1
  rwa [List.getD_eq_getElem?_getD, List.getD_eq_getElem?_getD, List.getElem?_eq_getElem h1, List.getElem?_eq_getElem h2] at this
set_option maxRecDepth 100000 in
set_option maxHeartbeats 1600000 in
theorem ts_Same (N N' : Nat) (ao bo : Option Addr) (ca cb : Nat) (A B : List Tch) (w : World) (hA : TcAt w N ao A) (hB : TcAt w N' bo B) (hn : A.length ≤ 9223372036854775807) (hm : B.length ≤ 9223372036854775807) :
    Calls Try.prog 17 #[.slice ao A.length ca, .slice bo B.length cb] w fun e w' => e = .returned (.bool (decide (A = B))) ∧ ∃ q, w' = w.drewN q := by
  have HP := Lib.hid (And.intro hA hB)
  obtain ⟨n, hnl⟩ : ∃ n, A.length = n := ⟨_, rfl⟩
  obtain ⟨m, hml⟩ : ∃ m, B.length = m := ⟨_, rfl⟩
  have HN := Lib.hid (And.intro hnl hml)
  rw [hnl] at hn ⊢
  rw [hml] at hm ⊢
  clear hA hB hnl hml
  by_cases hnm : n = m
  · subst hnm
    have hnn : ((n : Int) != (n : Int)) = false := by simp
    clear hm
    go_enter Try.func17, Try.ntmps17
    go_wp2
    go_loopg [5] n (fun cnt i wr => ∃ j : Nat, i = .int .i64 j ∧ j + cnt = n ∧ (∃ q, wr = w.drewN q) ∧ ∀ t, t < j → A.getD t tch0 = B.getD t tch0)
    case atStart => exact ⟨0, rfl, by omega, ⟨0, rfl⟩, fun t ht => by omega⟩
    case round =>
      obtain ⟨j, rfl, hj, ⟨q, hq⟩, hno⟩ := hrel
      have hE : Ext [] w wr := by rw [hq]; exact (Ext.refl [] w).drewN q
      by_cases hlt : j < n
      · obtain ⟨b, off, rfl, x0, x1, x2⟩ := (HP.out.1.ext0 hE).cells (i := j) (by rw [HN.out.1]; exact hlt)
        obtain ⟨b', off', rfl, y0, y1, y2⟩ := (HP.out.2.ext0 hE).cells (i := j) (by rw [HN.out.2]; exact hlt)
        obtain ⟨s, hs⟩ : ∃ s, A.getD j tch0 = s := ⟨_, rfl⟩
        obtain ⟨t, ht⟩ : ∃ t, B.getD j tch0 = t := ⟨_, rfl⟩
        rw [hs] at x0 x1 x2
        rw [ht] at y0 y1 y2
        have hne := neTch s.kd s.at' s.wd t.kd t.at' t.wd
        rw [tch_beq] at hne
        have HST := Lib.hid (And.intro hs ht)
        have hi0 : (0 : Int) ≤ (j : Int) := by omega
        have hi1 : (j : Int) < (n : Int) := by omega
        have hwj : wrap64 ((j : Int) + 1) = (j : Int) + 1 := IntWalk.wrap64_in _ (by omega)
        have HJ := Lib.hid (And.intro hj (And.intro hlt (And.intro hq hno)))
        clear hj hE hno hq hs ht hlt hn
        by_cases hst : s = t
        · have HE := Lib.hid hst
          rw [decide_eq_true hst] at hne
          simp only [Bool.not_true] at hne
          clear hst
          go_wp2
          go_quiet (fail)
          go_wp2
          go_roundg (n - (j + 1))
          case measure => have := HJ.out.1; have := HJ.out.2.1; omega
          case rel =>
            refine ⟨j + 1, by first | (rw [hwj]; rfl) | rfl, by have := HJ.out.1; have := HJ.out.2.1; omega, by rw [HJ.out.2.2.1]; exact ⟨_, World.drewN_drewN ..⟩, fun u hu => ?_⟩
            by_cases huj : u = j
            · subst huj; rw [HST.out.1, HST.out.2]; exact HE.out
            · exact HJ.out.2.2.2 u (by omega)
        · have HE := Lib.hid hst
          rw [decide_eq_false hst] at hne
          simp only [Bool.not_false] at hne
          clear hst
          go_wp2
          go_quiet (fail)
          go_wp2
          go_ret
          refine ⟨?_, by rw [HJ.out.2.2.1]; exact ⟨_, World.drewN_drewN ..⟩⟩
          rw [decide_eq_false (fun h => HE.out (by rw [← HST.out.1, ← HST.out.2, h]))]
          rfl
      · have hd : decide (j < n) = false := by simpa using hlt
        have hjn : ¬ ((j : Int) < (n : Int)) := by omega
        have HJ := Lib.hid (And.intro hj (And.intro hlt (And.intro hq hno)))
        clear hj hlt hE hno hq hn
        go_wp2
        go_ret
        refine ⟨?_, q, HJ.out.2.2.1⟩
        rw [decide_eq_true (getD_eq_all (by rw [HN.out.1, HN.out.2]) (fun i hi => HJ.out.2.2.2 i (by have := HN.out.1; have := HJ.out.2.1; omega)))]
        rfl
  · have hnn : ((n : Int) != (m : Int)) = true := by simp; omega
    have HE := Lib.hid hnm
    clear hnm
    go_enter Try.func17, Try.ntmps17
    go_wp2
    go_ret
    refine ⟨?_, 0, rfl⟩
    rw [decide_eq_false (fun h => HE.out (by rw [← HN.out.1, ← HN.out.2, h]))]
    rfl

theorem eqlTcs (a : Option Addr) (n c : Nat) (w : World) : (binOp .eql 22 (.slice a n c) (.slice none 0 0)).run Try.prog w = .ok (.bool a.isNone) w :=
  Lib.run_eql_slice_nil _ _ _ _ _ _ _ _ Try.underlying22
set_option maxRecDepth 100000 in
set_option maxHeartbeats 800000 in
/-- a clone: nil, or touches of its own -/
theorem tc_clone (N : Nat) (ao : Option Addr) (cap : Nat) (L : List Tch) (w : World) (h : TcAt w N ao L) (h1 : L.length ≤ 1000000) :
    Calls Try.prog 29 #[.slice ao L.length cap] w fun e w' => ∃ v', e = .returned v' ∧ Ext [] w w' ∧ TcOwn w' w.heap.size v' L := by
  obtain ⟨i0, hi, hz0, hz1, hz2⟩ := info_parts infoTch
  have he := eqlTcs
  cases ao with
  | none =>
    have hl : L = [] := by
      rcases h.1 with h0 | ⟨b, off, h0, _⟩
      · exact List.eq_nil_of_length_eq_zero h0
      · cases h0
    subst hl
    clear h h1
    go_enter Try.func29, Try.ntmps29
    go_wp2
    go_ret
    exact ⟨_, rfl, Ext.refl _ _, World.ownsRow_nil _ _ _ _⟩
  | some ad =>
    have hs := h.src.ext (k := []) ((Ext.refl [] w).alloc (.cells #[] 45)) (fun _ _ => by simp)
    have ho : (w.alloc (.cells #[] 45)).ownsRow w.heap.size 45 3 (.slice (some ⟨w.heap.size, 0, none⟩) 0 0) 0 [] := owns_empty (World.alloc_heap_new _ _) (Nat.le_refl _)
    have HS := Lib.hid (And.intro hs (And.intro ho h1))
    clear h hs ho h1
    go_enter Try.func29, Try.ntmps29
    go_wp2_with (at_builtin; refine wpList_append_any rfl _ _ 22 rfl w.heap.size 45 i0 _ 3 24 Try.underlying22 hi hz0 hz1 hz2 rfl (by decide) _ _ _ rfl HS.out.2.1 (some ad) L.length cap (rowC (tR L) L.length) rfl HS.out.1 (by have := HS.out.2.2; unfold maxLen; omega) (by have := HS.out.2.2; omega) (by simp) ?_)
    intro v w1 ho1 hE1 hl1
    try rw [Nat.zero_add] at ho1
    try rw [List.nil_append] at ho1
    have hE : Ext [] w w1 := ((Ext.refl [] w).alloc (.cells #[] 45)).trans' hE1 (fun j hj => .inr (by simp [Value.ownBlock] at hj; omega))
    have HF := Lib.hid (And.intro hE ho1)
    clear ho1 hE1 hl1 hE
    go_wp2
    go_ret
    exact ⟨_, rfl, HF.out.1, HF.out.2⟩
end Go.Proofs.Ytmfbgkcphiomaaa
