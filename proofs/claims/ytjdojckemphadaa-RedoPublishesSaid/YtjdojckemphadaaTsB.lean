/- The document's Line, Lines, Same. -/
import Derived.Test.YtjdojckemphadaaTsA
import Derived.Test.YtjdojckemphadaaOpn
import Derived.Deep.LoopGhost
import Derived.RegionTactic
import Derived.Deep.QuietTactic
import Derived.BigQuiet
namespace Go.Proofs.Ytjdojckemphadaa
open Go Go.RowKit Go.Shelf
attribute [local go_sem] Oper.semAt_some

set_option maxRecDepth 100000 in
set_option maxHeartbeats 1600000 in
theorem ts_Line (k a x : Int) (w : World) (h0 : 0 ≤ a) (h1 : a ≤ 9223372036854775807) : Calls Try.prog 47 #[.agg #[.int .i64 k, .int .i64 a, .int .u64 x]] w fun e w' => e = .returned (.int .i64 (Tch.rl ⟨k, a, x⟩)) ∧ Ext [] w w' := by
  obtain ⟨w0, hw0⟩ : ∃ w0, w.alloc (.cells #[.int .i64 k, .int .i64 a, .int .u64 x] 44) = w0 := ⟨_, rfl⟩
  have hb0 : w0.heap[w.heap.size]? = some (.cells #[.int .i64 k, .int .i64 a, .int .u64 x] 44 (0, 0)) := by rw [← hw0]; exact World.alloc_heap_new _ _
  have H0 : Hid (Ext [] w w0) := by rw [← hw0]; exact (Ext.refl _ _).alloc _
  have k0 := cell_of (j := 0) (v := .int .i64 k) hb0 rfl
  have k1 := cell_of (j := 1) (v := .int .i64 a) hb0 rfl
  have k2 := cell_of (j := 2) (v := .int .u64 x) hb0 rfl
  clear hb0
  by_cases h3 : k = 3
  · subst h3
    go_enter Try.func47, Try.ntmps47
    go_wp2
    go_ret
    exact ⟨rfl, H0.out⟩
  by_cases h4 : k = 4
  · subst h4
    go_enter Try.func47, Try.ntmps47
    go_wp2
    go_ret
    exact ⟨rfl, H0.out⟩
  · have g3 : (k == 3) = false := by simpa using h3
    have g4 : (k == 4) = false := by simpa using h4
    have hln : Tch.rl ⟨k, a, x⟩ = a / 8 := by unfold Tch.rl; rw [if_neg h3, if_neg h4]
    have hq : a.tdiv 8 = a / 8 := Int.tdiv_eq_ediv_of_nonneg h0
    have hw : wrap64 (a / 8) = a / 8 := IntWalk.wrap64_in _ (by omega)
    rw [hln]
    clear h3 h4 hln
    go_enter Try.func47, Try.ntmps47
    go_wp2
    go_ret
    exact ⟨rfl, H0.out⟩

set_option maxRecDepth 100000 in
set_option maxHeartbeats 4000000 in
theorem ts_Lines (N : Nat) (ao : Option Addr) (cap : Nat) (L : List Tch) (w : World) (hp : TcAt w N ao L) (hn : L.length ≤ 1000000) (hr : ∀ t ∈ L, t.right = true) :
    Calls Try.prog 41 #[.slice ao L.length cap] w fun e w' => ∃ v, e = .returned v ∧ IntOwn w' w.heap.size v (linesL L) ∧ Ext [] w w' := by
  have HP := Lib.hid (And.intro hp hr)
  obtain ⟨n, hnl⟩ : ∃ n, L.length = n := ⟨_, rfl⟩
  have HN := Lib.hid hnl
  obtain ⟨i0, hi, hz0, hz1, hz2⟩ := info_parts infoInt
  have HI := Lib.hid (And.intro hi (And.intro hz0 (And.intro hz1 (And.intro hz2 hn))))
  rw [hnl] at hn HI ⊢
  unfold linesL
  obtain ⟨p, hpp⟩ : ∃ p : Int → Bool, (fun k => L.any (Tch.on k)) = p := ⟨_, rfl⟩
  rw [hpp]
  have HPP := Lib.hid hpp
  clear hp hr hnl hi hz0 hz1 hz2 hpp
  go_enter Try.func41, Try.ntmps41
  go_wp2
  go_loopg [3, 4] 1024 (fun cnt v i wr => ∃ j : Nat, i = .int .i64 j ∧ j + cnt = 1024 ∧ IntOwn wr w.heap.size v (upto j p) ∧ Ext [] w wr)
  case atStart => exact ⟨0, rfl, by omega, IntOwn.nil _ _, Ext.refl _ _⟩
  case round =>
    obtain ⟨j, rfl, hjk, hO, hE⟩ := hrel
    obtain ⟨vo, vcap, rfl, _, _⟩ := hO.at
    have hlen := upto_len j p
    have hus := upto_succ j p
    unfold IntOwn at hO
    obtain ⟨m, hm⟩ : ∃ m, (upto j p).length = m := ⟨_, rfl⟩
    rw [hm] at hO hlen ⊢
    by_cases hlt : j < 1024
    · have hwj : wrap64 ((j : Int) + 1) = (j : Int) + 1 := IntWalk.wrap64_in _ (by omega)
      have hj1 : (j : Int) < 1024 := by omega
      have HJ := Lib.hid (And.intro hjk (And.intro hlt (And.intro hO (And.intro hE (And.intro hlen (And.intro hus hm))))))
      clear hjk hlt hO hE hlen hus hm
      rename World => W
      go_wp2
      go_loopg [3, 5] n (fun cnt v i wq => ∃ i2 : Nat, v = .slice vo m vcap ∧ i = .int .i64 i2 ∧ i2 + cnt = n ∧ Ext [] W wq ∧ ∀ t, t < i2 → (L.getD t tch0).on j = false)
      case atStart => exact ⟨0, rfl, rfl, by omega, Ext.refl _ _, fun t ht => by omega⟩
      case round =>
        obtain ⟨i2, rfl, rfl, hik, hE2, hno⟩ := hrel
        by_cases h2 : i2 < n
        · obtain ⟨b, off, rfl, c0, c1, c2⟩ := (HP.out.1.ext0 (HJ.out.2.2.2.1.trans hE2)).cells (i := i2) (by rw [HN.out]; exact h2)
          have hi0 : (0 : Int) ≤ (i2 : Int) := by omega
          have hi1 : (i2 : Int) < (n : Int) := by omega
          have hwi : wrap64 ((i2 : Int) + 1) = (i2 : Int) + 1 := IntWalk.wrap64_in _ (by omega)
          have hrt := Tch.right_at (HP.out.2 _ (getD_mem (L := L) (j := i2) (by rw [HN.out]; exact h2)))
          obtain ⟨q, hq⟩ : ∃ q, L.getD i2 tch0 = q := ⟨_, rfl⟩
          rw [hq] at c0 c1 c2 hrt
          have hon := Tch.rl_on q (k := (j : Int)) (by omega)
          have HQ := Lib.hid (And.intro hq (And.intro hon (And.intro hE2 (And.intro hno (And.intro hik h2)))))
          have HL := Lib.hid (fun W => ts_Line q.kd q.at' q.wd W hrt.1 (by omega))
          clear hq hon hE2 hno hik h2 hrt
          obtain ⟨y, hy⟩ : ∃ y, q.rl = y := ⟨_, rfl⟩
          rw [show Tch.rl ⟨q.kd, q.at', q.wd⟩ = y from hy] at HL
          have HY := Lib.hid hy
          clear hy
          cases g : (y == (j : Int)) with
          | true =>
            have hon : q.on j = true := by rw [← HQ.out.2.1, HY.out, g]
            have hup : upto (j + 1) p = upto j p ++ [(j : Int)] := by
              rw [HJ.out.2.2.2.2.2.1, ← HPP.out, if_pos]
              exact any_getD.2 ⟨i2, by rw [HN.out]; exact HQ.out.2.2.2.2.2, by rw [HQ.out.1]; exact hon⟩
            have HU := Lib.hid hup
            clear hon hup
            go_wp2_with fail
            refine (HL.out _).mono ?_
            rintro e w3 ⟨rfl, hE3⟩
            have hb1 := World.alloc_heap_new w3 (.cells #[.int .i64 (j : Int)] 3)
            have HB := Lib.hid (And.intro hb1 (And.intro ((HQ.out.2.2.1.trans hE3).alloc (.cells #[.int .i64 (j : Int)] 3)) (HJ.out.2.2.2.1.size)))
            clear hb1 hE3
            go_wp2_with (at_builtin; refine wpList_append_any rfl _ _ 80 rfl w.heap.size 3 i0 _ 1 8 Try.underlying80 HI.out.1 HI.out.2.1 HI.out.2.2.1 HI.out.2.2.2.1 rfl (by omega) (.slice vo m vcap) m _ rfl (owns_ext HJ.out.2.2.1 HB.out.2.1 (fun _ _ => by simp)) (some ⟨w3.heap.size, 0, none⟩) 1 1 [.int .i64 (j : Int)] rfl (int_src HB.out.1) ?c1 ?c2 ?c3 ?_)
            case c1 => have h1 := HJ.out.2.1; have h2 := HJ.out.2.2.2.2.1; unfold maxLen; omega
            case c2 => have h1 := HJ.out.2.1; have h2 := HJ.out.2.2.2.2.1; omega
            case c3 => have h1 := HB.out.2.2; have h2 := HB.out.2.1.size; omega
            intro v1 wA ho1 hEA hbA
            have HR : Hid (IntOwn wA w.heap.size v1 (upto (j + 1) p) ∧ Ext [] w wA) := by
              refine ⟨?_, (HJ.out.2.2.2.1.trans HB.out.2.1).trans' hEA (fun b hb => .inr (HJ.out.2.2.1.lt b (by simpa using hb)).1)⟩
              unfold IntOwn
              rw [HU.out, intL_snoc, List.length_append, HJ.out.2.2.2.2.2.2]
              exact ho1
            clear ho1 hEA hbA
            go_wp2
            go_roundg (1024 - (j + 1))
            case measure => have := HJ.out.1; have := HJ.out.2.1; omega
            case rel => exact ⟨j + 1, by first | (rw [hwj]; rfl) | rfl, by have := HJ.out.1; have := HJ.out.2.1; omega, HR.out⟩
          | false =>
            have HF : Hid (q.on j = false) := by unfold Hid; rw [← HQ.out.2.1, HY.out, g]
            go_wp2_with fail
            refine (HL.out _).mono ?_
            rintro e w3 ⟨rfl, hE3⟩
            have H3 := Lib.hid (HQ.out.2.2.1.trans hE3)
            clear hE3
            go_wp2
            go_roundg (n - (i2 + 1))
            case measure => have := HQ.out.2.2.2.2; omega
            case rel =>
              refine ⟨i2 + 1, rfl, by first | (rw [hwi]; rfl) | rfl, by have := HQ.out.2.2.2.2; omega, H3.out, fun t ht => ?_⟩
              rcases Nat.lt_succ_iff_lt_or_eq.1 ht with h | h
              · exact HQ.out.2.2.2.1 t h
              · rw [h, HQ.out.1]; exact HF.out
        · have hd : ¬ ((i2 : Int) < (n : Int)) := by omega
          have hup : upto (j + 1) p = upto j p := by
            rw [HJ.out.2.2.2.2.2.1, ← HPP.out, if_neg, List.append_nil]
            show ¬ (L.any (Tch.on (j : Int)) = true)
            rw [any_false (fun i hi => hno i (by rw [HN.out] at hi; omega))]
            decide
          have HR : Hid (IntOwn wr w.heap.size (.slice vo m vcap) (upto (j + 1) p) ∧ Ext [] w wr) := by
            refine ⟨?_, HJ.out.2.2.2.1.trans hE2⟩
            unfold IntOwn
            rw [hup, HJ.out.2.2.2.2.2.2]
            exact owns_ext HJ.out.2.2.1 hE2 (fun _ _ => by simp)
          clear hup hik h2 hE2 hno
          go_wp2
          go_roundg (1024 - (j + 1))
          case measure => have := HJ.out.1; have := HJ.out.2.1; omega
          case rel => exact ⟨j + 1, by first | (rw [hwj]; rfl) | rfl, by have := HJ.out.1; have := HJ.out.2.1; omega, HR.out⟩
    · have hd : ¬ ((j : Int) < 1024) := by omega
      obtain rfl : j = 1024 := by omega
      have HR := Lib.hid (And.intro hO (And.intro hE hm))
      clear hlt hjk hO hE hlen hus hm
      go_wp2
      go_ret
      refine ⟨_, rfl, ?_, HR.out.2.1⟩
      unfold IntOwn
      rw [HR.out.2.2]
      exact HR.out.1

theorem neTch (k a x k' a' x' : Int) (w : World) : (binOp .neq 44 (.agg #[.int .i64 k, .int .i64 a, .int .u64 x]) (.agg #[.int .i64 k', .int .i64 a', .int .u64 x'])).run Try.prog w = .ok (.bool (!(k == k' && (a == a' && x == x')))) w := by
  have u3 := Try.underlying3
  have u4 := Try.underlying34
  have u5 := Try.underlying42
  have hS : Try.prog.underlying 44 = some (.struct (Try.prog.fieldsOf 44)) := by kernel_rfl
  have hp : Try.prog.stoodInHeld 44 = false := by kernel_rfl
  rw [run_neq_struct, show (10000 : Nat) = 9999 + 1 from rfl, run_equalIn_agg w 9999 44 _ _ hS hp]
  simp only [Program.fieldsOf, Try.underlying44]
  go_simp
  by_cases h1 : k = k' <;> by_cases h2 : a = a' <;> by_cases h3 : x = x' <;> simp [h1, h2, h3]

theorem tch_beq (s t : Tch) : (s.kd == t.kd && (s.at' == t.at' && s.wd == t.wd)) = decide (s = t) := by
  obtain ⟨k, a, x⟩ := s
  obtain ⟨k', a', x'⟩ := t
  rw [Bool.eq_iff_iff]
  simp

theorem getD_eq_all {A B : List Tch} (hl : A.length = B.length) (h : ∀ i, i < A.length → A.getD i tch0 = B.getD i tch0) : A = B := by
  refine List.ext_getElem hl (fun i h1 h2 => ?_)
  have := h i h1
  rwa [List.getD_eq_getElem?_getD, List.getD_eq_getElem?_getD, List.getElem?_eq_getElem h1, List.getElem?_eq_getElem h2] at this

set_option maxRecDepth 100000 in
set_option maxHeartbeats 1600000 in
theorem ts_Same (N N' : Nat) (ao bo : Option Addr) (ca cb : Nat) (A B : List Tch) (w : World) (hA : TcAt w N ao A) (hB : TcAt w N' bo B) (hn : A.length ≤ 9223372036854775807) (hm : B.length ≤ 9223372036854775807) :
    Calls Try.prog 11 #[.slice ao A.length ca, .slice bo B.length cb] w fun e w' => e = .returned (.bool (decide (A = B))) ∧ ∃ q, w' = w.drewN q := by
  have HP := Lib.hid (And.intro hA hB)
  obtain ⟨n, hnl⟩ : ∃ n, A.length = n := ⟨_, rfl⟩
  obtain ⟨m, hml⟩ : ∃ m, B.length = m := ⟨_, rfl⟩
  have HN := Lib.hid (And.intro hnl hml)
  rw [hnl] at hn ⊢
  rw [hml] at hm ⊢
  clear hA hB hnl hml
  by_cases hnm : n = m
  · subst hnm
    have hnn : ((n : Int) != (n : Int)) = false := by simp
    clear hm
    go_enter Try.func11, Try.ntmps11
    go_wp2
    go_loopg [5] n (fun cnt i wr => ∃ j : Nat, i = .int .i64 j ∧ j + cnt = n ∧ (∃ q, wr = w.drewN q) ∧ ∀ t, t < j → A.getD t tch0 = B.getD t tch0)
    case atStart => exact ⟨0, rfl, by omega, ⟨0, rfl⟩, fun t ht => by omega⟩
    case round =>
      obtain ⟨j, rfl, hj, ⟨q, hq⟩, hno⟩ := hrel
      have hE : Ext [] w wr := by rw [hq]; exact (Ext.refl [] w).drewN q
      by_cases hlt : j < n
      · obtain ⟨b, off, rfl, x0, x1, x2⟩ := (HP.out.1.ext0 hE).cells (i := j) (by rw [HN.out.1]; exact hlt)
        obtain ⟨b', off', rfl, y0, y1, y2⟩ := (HP.out.2.ext0 hE).cells (i := j) (by rw [HN.out.2]; exact hlt)
        obtain ⟨s, hs⟩ : ∃ s, A.getD j tch0 = s := ⟨_, rfl⟩
        obtain ⟨t, ht⟩ : ∃ t, B.getD j tch0 = t := ⟨_, rfl⟩
        rw [hs] at x0 x1 x2
        rw [ht] at y0 y1 y2
        have hne := neTch s.kd s.at' s.wd t.kd t.at' t.wd
        rw [tch_beq] at hne
        have HST := Lib.hid (And.intro hs ht)
        have hi0 : (0 : Int) ≤ (j : Int) := by omega
        have hi1 : (j : Int) < (n : Int) := by omega
        have hwj : wrap64 ((j : Int) + 1) = (j : Int) + 1 := IntWalk.wrap64_in _ (by omega)
        have HJ := Lib.hid (And.intro hj (And.intro hlt (And.intro hq hno)))
        clear hj hE hno hq hs ht hlt hn
        by_cases hst : s = t
        · have HE := Lib.hid hst
          rw [decide_eq_true hst] at hne
          simp only [Bool.not_true] at hne
          clear hst
          go_wp2
          go_quiet (fail)
          go_wp2
          go_roundg (n - (j + 1))
          case measure => have := HJ.out.1; have := HJ.out.2.1; omega
          case rel =>
            refine ⟨j + 1, by first | (rw [hwj]; rfl) | rfl, by have := HJ.out.1; have := HJ.out.2.1; omega, by rw [HJ.out.2.2.1]; exact ⟨_, World.drewN_drewN ..⟩, fun u hu => ?_⟩
            by_cases huj : u = j
            · subst huj; rw [HST.out.1, HST.out.2]; exact HE.out
            · exact HJ.out.2.2.2 u (by omega)
        · have HE := Lib.hid hst
          rw [decide_eq_false hst] at hne
          simp only [Bool.not_false] at hne
          clear hst
          go_wp2
          go_quiet (fail)
          go_wp2
          go_ret
          refine ⟨?_, by rw [HJ.out.2.2.1]; exact ⟨_, World.drewN_drewN ..⟩⟩
          rw [decide_eq_false (fun h => HE.out (by rw [← HST.out.1, ← HST.out.2, h]))]
          rfl
      · have hd : decide (j < n) = false := by simpa using hlt
        have hjn : ¬ ((j : Int) < (n : Int)) := by omega
        have HJ := Lib.hid (And.intro hj (And.intro hlt (And.intro hq hno)))
        clear hj hlt hE hno hq hn
        go_wp2
        go_ret
        refine ⟨?_, q, HJ.out.2.2.1⟩
        rw [decide_eq_true (getD_eq_all (by rw [HN.out.1, HN.out.2]) (fun i hi => HJ.out.2.2.2 i (by have := HN.out.1; have := HJ.out.2.1; omega)))]
        rfl
  · have hnn : ((n : Int) != (m : Int)) = true := by simp; omega
    have HE := Lib.hid hnm
    clear hnm
    go_enter Try.func11, Try.ntmps11
    go_wp2
    go_ret
    refine ⟨?_, 0, rfl⟩
    rw [decide_eq_false (fun h => HE.out (by rw [← HN.out.1, ← HN.out.2, h]))]
    rfl

end Go.Proofs.Ytjdojckemphadaa
