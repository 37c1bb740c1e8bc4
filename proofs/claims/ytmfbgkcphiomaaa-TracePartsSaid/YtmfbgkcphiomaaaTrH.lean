/- The document's stored, sure, Orderly. -/
import Derived.Test.YtmfbgkcphiomaaaTrG
namespace Go.Proofs.Ytmfbgkcphiomaaa
open Go Go.RowKit Go.Shelf
attribute [local go_sem] Oper.semAt_some

set_option maxRecDepth 100000 in
set_option maxHeartbeats 4000000 in
theorem ts_stored (N : Nat) (ao : Option Addr) (cap : Nat) (L : List Tch) (w : World) (hp : TcAt w N ao L) (hn : L.length ≤ 1000000) (hr : ∀ t ∈ L, t.right = true) :
    Calls Try.prog 33 #[.slice ao L.length cap] w fun e w' => ∃ v, e = .returned v ∧ IntOwn w' w.heap.size v (storedL L) ∧ Ext [] w w' := by
  have HP := Lib.hid (And.intro hp hr)
  obtain ⟨n, hnl⟩ : ∃ n, L.length = n := ⟨_, rfl⟩
  have HN := Lib.hid hnl
  obtain ⟨i0, hi, hz0, hz1, hz2⟩ := info_parts infoTch
  have HI := Lib.hid (And.intro hi (And.intro hz0 (And.intro hz1 (And.intro hz2 hn))))
  rw [hnl] at hn HI ⊢
  clear hp hr hnl hi hz0 hz1 hz2
  go_enter Try.func33, Try.ntmps33
  go_wp2
  go_loopg [3, 4] n (fun cnt v i wr => ∃ j : Nat, i = .int .i64 j ∧ j + cnt = n ∧ TcOwn wr w.heap.size v ((L.take j).filter (fun t => t.kd == 2)) ∧ Ext [] w wr)
  case atStart => exact ⟨0, rfl, by omega, TcOwn.nil _ _, Ext.refl _ _⟩
  case round =>
    obtain ⟨j, rfl, hjk, hO, hE⟩ := hrel
    obtain ⟨vo, vcap, rfl, hT, _, _⟩ := hO.at (N := w.heap.size)
    obtain ⟨M, hM⟩ : ∃ M, (L.take j).filter (fun t => t.kd == 2) = M := ⟨_, rfl⟩
    have hml : M.length ≤ n := by rw [← hM, ← HN.out]; exact Nat.le_trans (List.length_filter_le _ _) (by rw [List.length_take]; omega)
    rw [hM] at hO hT ⊢
    obtain ⟨m, hm⟩ : ∃ m, M.length = m := ⟨_, rfl⟩
    have hO2 := hO
    unfold TcOwn at hO2
    rw [hm] at hO hO2 hml ⊢
    by_cases hlt : j < n
    · have hwj : wrap64 ((j : Int) + 1) = (j : Int) + 1 := IntWalk.wrap64_in _ (by omega)
      have hj0 : (0 : Int) ≤ (j : Int) := by omega
      have hj1 : (j : Int) < (n : Int) := by omega
      obtain ⟨b, off, rfl, c0, c1, c2⟩ := (HP.out.1.ext0 hE).cells (i := j) (by rw [HN.out]; exact hlt)
      have hts := take_snoc (L := L) (j := j) (by rw [HN.out]; exact hlt)
      obtain ⟨q, hq⟩ : ∃ q, L.getD j tch0 = q := ⟨_, rfl⟩
      rw [hq] at c0 c1 c2 hts
      have hfs : (L.take (j + 1)).filter (fun t => t.kd == 2) = M ++ (if (q.kd == 2) = true then [q] else []) := by
        rw [hts, List.filter_append, hM, List.filter_cons, List.filter_nil]
      have HJ := Lib.hid (And.intro hjk (And.intro hlt (And.intro hO2 (And.intro hE (And.intro hml (And.intro hfs (And.intro hm hO)))))))
      clear hjk hlt hO hO2 hT hE hml hfs hm hts hq hM
      cases g : (q.kd == 2) with
      | true =>
        have hb1 := World.alloc_heap_new wr (.cells #[.int .i64 q.kd, .int .i64 q.at', .int .u64 q.wd] 45)
        have HB := Lib.hid (And.intro hb1 (And.intro ((Ext.refl [] wr).alloc (.cells #[.int .i64 q.kd, .int .i64 q.at', .int .u64 q.wd] 45)) (HJ.out.2.2.2.1.size)))
        have HG := Lib.hid g
        clear hb1
        go_wp2_with (at_builtin; refine wpList_append_any rfl _ _ 22 rfl w.heap.size 45 i0 _ 3 24 Try.underlying22 HI.out.1 HI.out.2.1 HI.out.2.2.1 HI.out.2.2.2.1 rfl (by omega) (.slice vo m vcap) m _ rfl (owns_ext HJ.out.2.2.1 HB.out.2.1 (fun _ _ => by simp)) (some ⟨wr.heap.size, 0, none⟩) 1 1 (tchR q) rfl (tch_src q HB.out.1) ?c1 ?c2 ?c3 ?_)
        case c1 => have h1 := HI.out.2.2.2.2; have h2 := HJ.out.2.2.2.2.1; unfold maxLen; omega
        case c2 => have h1 := HI.out.2.2.2.2; have h2 := HJ.out.2.2.2.2.1; omega
        case c3 => have h1 := HB.out.2.2; simp; omega
        intro v1 wA ho1 hEA hbA
        have HR : Hid (TcOwn wA w.heap.size v1 ((L.take (j + 1)).filter (fun t => t.kd == 2)) ∧ Ext [] w wA) := by
          refine ⟨?_, (HJ.out.2.2.2.1.trans HB.out.2.1).trans' hEA (fun b hb => .inr (HJ.out.2.2.1.lt b (by simpa using hb)).1)⟩
          rw [HJ.out.2.2.2.2.2.1, if_pos HG.out]
          exact TcOwn.snoc q HJ.out.2.2.2.2.2.2.1 ho1
        clear ho1 hEA hbA
        go_wp2
        go_roundg (n - (j + 1))
        case measure => have := HJ.out.1; have := HJ.out.2.1; omega
        case rel => exact ⟨j + 1, by first | (rw [hwj]; rfl) | rfl, by have := HJ.out.1; have := HJ.out.2.1; omega, HR.out⟩
      | false =>
        have HR : Hid (TcOwn wr w.heap.size (.slice vo m vcap) ((L.take (j + 1)).filter (fun t => t.kd == 2)) ∧ Ext [] w wr) := by
          refine ⟨?_, HJ.out.2.2.2.1⟩
          rw [HJ.out.2.2.2.2.2.1, if_neg (by rw [g]; decide), List.append_nil]
          exact HJ.out.2.2.2.2.2.2.2
        go_wp2
        go_roundg (n - (j + 1))
        case measure => have := HJ.out.1; have := HJ.out.2.1; omega
        case rel => exact ⟨j + 1, by first | (rw [hwj]; rfl) | rfl, by have := HJ.out.1; have := HJ.out.2.1; omega, HR.out⟩
    · have hd : ¬ ((j : Int) < (n : Int)) := by omega
      have hML : L.filter (fun t => t.kd == 2) = M := by
        rw [← hM, show j = L.length from by rw [HN.out]; omega, List.take_length]
      have HL := Lib.hid (ts_Lines w.heap.size vo vcap M wr hT (by rw [hm]; omega) (fun t ht => HP.out.2 t (by rw [← hML] at ht; exact (List.mem_filter.1 ht).1)))
      rw [hm, ← hML, storedL_filter] at HL
      have HR := Lib.hid hE
      clear hlt hjk hO hO2 hT hE hml hM hm hML
      go_wp2_with fail
      refine HL.out.mono ?_
      rintro e w2 ⟨v2, rfl, hO2, hE2⟩
      have HF := Lib.hid (And.intro (hO2.low HR.out.size) (HR.out.trans hE2))
      clear hO2 hE2
      go_wp2
      go_ret
      exact ⟨_, rfl, HF.out⟩

set_option maxRecDepth 100000 in
set_option maxHeartbeats 4000000 in
theorem ts_sure (N : Nat) (ao : Option Addr) (cap : Nat) (L : List Tch) (k : Int) (w : World) (hp : TcAt w N ao L) (hn : L.length ≤ 1000000) (hr : ∀ t ∈ L, t.right = true) :
    Calls Try.prog 34 #[.slice ao L.length cap, .int .i64 k] w fun e w' => e = .returned (.bool (sureS L k)) ∧ Ext [] w w' := by
  have HP := Lib.hid (And.intro hp hr)
  obtain ⟨n, hnl⟩ : ∃ n, L.length = n := ⟨_, rfl⟩
  have HN := Lib.hid hnl
  rw [hnl] at hn ⊢
  clear hp hr hnl
  go_enter Try.func34, Try.ntmps34
  go_wp2
  go_loopg [5, 6] n (fun cnt s i wr => ∃ j : Nat, s = .int .i64 (stS (L.take j) k) ∧ i = .int .i64 j ∧ j + cnt = n ∧ Ext [] w wr)
  case atStart => exact ⟨0, rfl, rfl, by omega, Ext.refl _ _⟩
  case round =>
    obtain ⟨j, rfl, rfl, hjk, hE⟩ := hrel
    obtain ⟨s, hs⟩ : ∃ s, stS (L.take j) k = s := ⟨_, rfl⟩
    rw [hs]
    by_cases hlt : j < n
    · have hwj : wrap64 ((j : Int) + 1) = (j : Int) + 1 := IntWalk.wrap64_in _ (by omega)
      have hj0 : (0 : Int) ≤ (j : Int) := by omega
      have hj1 : (j : Int) < (n : Int) := by omega
      obtain ⟨b, off, rfl, c0, c1, c2⟩ := (HP.out.1.ext0 hE).cells (i := j) (by rw [HN.out]; exact hlt)
      have hts := take_snoc (L := L) (j := j) (by rw [HN.out]; exact hlt)
      have hrt := HP.out.2 _ (getD_mem (L := L) (j := j) (by rw [HN.out]; exact hlt))
      obtain ⟨q, hq⟩ : ∃ q, L.getD j tch0 = q := ⟨_, rfl⟩
      rw [hq] at c0 c1 c2 hts hrt
      have hst : stS (L.take (j + 1)) k = stOne k s q := by rw [hts, stS_snoc, hs]
      obtain ⟨y, a, x⟩ := q
      dsimp only at c0 c1 c2
      have hat : 0 ≤ a ∧ a < 8192 := Tch.right_at hrt
      have hk : y = 1 ∨ y = 2 ∨ y = 3 ∨ y = 4 := Tch.right_kind hrt
      have HL := Lib.hid (fun W => ts_Line y a x W hat.1 (by omega))
      have HJ := Lib.hid (And.intro hjk (And.intro hlt (And.intro hE hst)))
      clear hjk hlt hE hst hts hrt hq hs hat
      by_cases h2 : y = 2
      · subst h2
        obtain ⟨r, hr⟩ : ∃ r, Tch.rl ⟨2, a, x⟩ = r := ⟨_, rfl⟩
        rw [hr] at HL
        have hrl : Tch.ln ⟨2, a, x⟩ = r := hr
        clear hk hr
        cases g : (r == k) with
        | true =>
          have HS : Hid (stS (L.take (j + 1)) k = 1) := by
            unfold Hid
            rw [HJ.out.2.2.2]
            show (if Tch.ln ⟨2, a, x⟩ = k then 1 else s) = 1
            rw [if_pos (by rw [hrl]; simpa using g)]
          clear hrl
          go_wp2_with fail
          refine (HL.out _).mono ?_
          rintro e w3 ⟨rfl, hE3⟩
          have H3 := Lib.hid (HJ.out.2.2.1.trans hE3)
          clear hE3
          go_wp2
          go_roundg (n - (j + 1))
          case measure => have := HJ.out.1; have := HJ.out.2.1; omega
          case rel => exact ⟨j + 1, by rw [HS.out], by first | (rw [hwj]; rfl) | rfl, by have := HJ.out.1; have := HJ.out.2.1; omega, H3.out⟩
        | false =>
          have HS : Hid (stS (L.take (j + 1)) k = s) := by
            unfold Hid
            rw [HJ.out.2.2.2]
            show (if Tch.ln ⟨2, a, x⟩ = k then 1 else s) = s
            rw [if_neg (by rw [hrl]; simpa using g)]
          clear hrl
          go_wp2_with fail
          refine (HL.out _).mono ?_
          rintro e w3 ⟨rfl, hE3⟩
          have H3 := Lib.hid (HJ.out.2.2.1.trans hE3)
          have d0 := hE3.cell c0 (by simp)
          have d1 := hE3.cell c1 (by simp)
          clear hE3 c0 c1 c2
          go_wp2
          go_roundg (n - (j + 1))
          case measure => have := HJ.out.1; have := HJ.out.2.1; omega
          case rel => exact ⟨j + 1, by rw [HS.out], by first | (rw [hwj]; rfl) | rfl, by have := HJ.out.1; have := HJ.out.2.1; omega, H3.out⟩
      by_cases h3 : y = 3
      · subst h3
        clear HL hk h2
        cases g : (a == k) with
        | true =>
          cases g1 : (s == 1) with
          | true =>
            have HS : Hid (stS (L.take (j + 1)) k = 2) := by
              unfold Hid
              rw [HJ.out.2.2.2]
              show (if a = k ∧ s = 1 then 2 else s) = 2
              rw [if_pos ⟨by simpa using g, by simpa using g1⟩]
            go_wp2
            go_roundg (n - (j + 1))
            case measure => have := HJ.out.1; have := HJ.out.2.1; omega
            case rel => exact ⟨j + 1, by rw [HS.out], by first | (rw [hwj]; rfl) | rfl, by have := HJ.out.1; have := HJ.out.2.1; omega, HJ.out.2.2.1⟩
          | false =>
            have HS : Hid (stS (L.take (j + 1)) k = s) := by
              unfold Hid
              rw [HJ.out.2.2.2]
              show (if a = k ∧ s = 1 then 2 else s) = s
              rw [if_neg (fun h => by rw [h.2] at g1; cases g1)]
            go_wp2
            go_roundg (n - (j + 1))
            case measure => have := HJ.out.1; have := HJ.out.2.1; omega
            case rel => exact ⟨j + 1, by rw [HS.out], by first | (rw [hwj]; rfl) | rfl, by have := HJ.out.1; have := HJ.out.2.1; omega, HJ.out.2.2.1⟩
        | false =>
          have HS : Hid (stS (L.take (j + 1)) k = s) := by
            unfold Hid
            rw [HJ.out.2.2.2]
            show (if a = k ∧ s = 1 then 2 else s) = s
            rw [if_neg (fun h => by rw [h.1] at g; simp at g)]
          go_wp2
          go_roundg (n - (j + 1))
          case measure => have := HJ.out.1; have := HJ.out.2.1; omega
          case rel => exact ⟨j + 1, by rw [HS.out], by first | (rw [hwj]; rfl) | rfl, by have := HJ.out.1; have := HJ.out.2.1; omega, HJ.out.2.2.1⟩
      by_cases h4 : y = 4
      · subst h4
        clear HL hk h2 h3
        cases g1 : (s == 2) with
        | true =>
          have HS : Hid (stS (L.take (j + 1)) k = 3) := by
            unfold Hid
            rw [HJ.out.2.2.2]
            show (if s = 2 then 3 else s) = 3
            rw [if_pos (by simpa using g1)]
          go_wp2
          go_roundg (n - (j + 1))
          case measure => have := HJ.out.1; have := HJ.out.2.1; omega
          case rel => exact ⟨j + 1, by rw [HS.out], by first | (rw [hwj]; rfl) | rfl, by have := HJ.out.1; have := HJ.out.2.1; omega, HJ.out.2.2.1⟩
        | false =>
          have HS : Hid (stS (L.take (j + 1)) k = s) := by
            unfold Hid
            rw [HJ.out.2.2.2]
            show (if s = 2 then 3 else s) = s
            rw [if_neg (fun h => by rw [h] at g1; cases g1)]
          go_wp2
          go_roundg (n - (j + 1))
          case measure => have := HJ.out.1; have := HJ.out.2.1; omega
          case rel => exact ⟨j + 1, by rw [HS.out], by first | (rw [hwj]; rfl) | rfl, by have := HJ.out.1; have := HJ.out.2.1; omega, HJ.out.2.2.1⟩
      · obtain rfl : y = 1 := by omega
        clear HL hk h2 h3 h4
        have HS : Hid (stS (L.take (j + 1)) k = s) := by
          unfold Hid
          rw [HJ.out.2.2.2]
          show s = s
          rfl
        go_wp2
        go_roundg (n - (j + 1))
        case measure => have := HJ.out.1; have := HJ.out.2.1; omega
        case rel => exact ⟨j + 1, by rw [HS.out], by first | (rw [hwj]; rfl) | rfl, by have := HJ.out.1; have := HJ.out.2.1; omega, HJ.out.2.2.1⟩
    · have hd : ¬ ((j : Int) < (n : Int)) := by omega
      have hS : sureS L k = (s == 0 || s == 3) := by
        unfold sureS
        rw [← hs, show j = L.length from by rw [HN.out]; omega, List.take_length]
      have HE := Lib.hid (And.intro hE hS)
      clear hlt hjk hE hs hS
      cases g0 : (s == 0) with
      | true =>
        have HG : Hid (sureS L k = true) := by unfold Hid; rw [HE.out.2, g0]; rfl
        go_wp2
        go_ret
        exact ⟨ret_bool HG.out, HE.out.1⟩
      | false =>
        obtain ⟨r, g3⟩ : ∃ r, (s == 3) = r := ⟨_, rfl⟩
        have HG : Hid (sureS L k = r) := by unfold Hid; rw [HE.out.2, g0, g3]; rfl
        go_wp2
        go_ret
        exact ⟨ret_bool HG.out, HE.out.1⟩

set_option maxRecDepth 100000 in
set_option maxHeartbeats 4000000 in
theorem ts_Orderly (N : Nat) (ao : Option Addr) (cap : Nat) (L : List Tch) (w : World) (hp : TcAt w N ao L) (hn : L.length ≤ 1000000) (hr : ∀ t ∈ L, t.right = true) :
    Calls Try.prog 16 #[.slice ao L.length cap] w fun e w' => e = .returned (.bool (ordL L)) ∧ Ext [] w w' := by
  have HSt := Lib.hid (ts_stored N ao cap L w hp hn hr)
  have HSu := Lib.hid (fun W k (hE : Ext [] w W) => ts_sure N ao cap L k W (hp.ext0 hE) hn hr)
  obtain ⟨S, hS⟩ : ∃ S, storedL L = S := ⟨_, rfl⟩
  have hor : ordL L = S.all (sureS L) := by unfold ordL; rw [hS]
  have hsl : S.length ≤ 1024 := by rw [← hS]; exact upto_len _ _
  rw [hor]
  rw [hS] at HSt
  generalize L.length = n at *
  obtain ⟨r, hr'⟩ : ∃ r, S.all (sureS L) = r := ⟨_, rfl⟩
  rw [hr']
  have HR := Lib.hid hr'
  clear hp hn hr hS hor hr'
  go_enter Try.func16, Try.ntmps16
  go_wp2_with fail
  refine HSt.out.mono ?_
  rintro e w1 ⟨v, rfl, hO, hE1⟩
  obtain ⟨bo, bcap, rfl, hI, _⟩ := hO.at
  obtain ⟨q, hq⟩ : ∃ q, S.length = q := ⟨_, rfl⟩
  have HQ := Lib.hid (And.intro hq (And.intro hI hE1))
  rw [hq] at hsl ⊢
  clear hq hO hI hE1
  go_wp2
  go_loopg [4] q (fun cnt i wr => ∃ j : Nat, i = .int .i64 j ∧ j + cnt = q ∧ Ext [] w1 wr ∧ ∀ t, t < j → sureS L (S.getD t 0) = true)
  case atStart => exact ⟨0, rfl, by omega, Ext.refl _ _, fun t ht => by omega⟩
  case round =>
    obtain ⟨j, rfl, hjk, hE, hno⟩ := hrel
    by_cases hlt : j < q
    · have hwj : wrap64 ((j : Int) + 1) = (j : Int) + 1 := IntWalk.wrap64_in _ (by omega)
      have hj0 : (0 : Int) ≤ (j : Int) := by omega
      have hj1 : (j : Int) < (q : Int) := by omega
      obtain ⟨g, off, rfl, c0⟩ := (HQ.out.2.1.ext hE (fun _ _ => by simp)) j (by rw [HQ.out.1]; exact hlt)
      obtain ⟨x, hx⟩ : ∃ x, S.getD j 0 = x := ⟨_, rfl⟩
      rw [hx] at c0
      have HC := Lib.hid (HSu.out wr x (HQ.out.2.2.trans hE))
      have HJ := Lib.hid (And.intro hjk (And.intro hlt (And.intro hE (And.intro hno hx))))
      clear hjk hlt hE hno hx hsl
      cases g : sureS L x with
      | true =>
        rw [g] at HC
        have HG := Lib.hid g
        clear g
        go_wp2_with fail
        refine HC.out.mono ?_
        rintro e w2 ⟨rfl, hE2⟩
        have H2 := Lib.hid (HJ.out.2.2.1.trans hE2)
        clear hE2
        go_wp2
        go_roundg (q - (j + 1))
        case measure => have := HJ.out.1; have := HJ.out.2.1; omega
        case rel =>
          refine ⟨j + 1, by first | (rw [hwj]; rfl) | rfl, by have := HJ.out.1; have := HJ.out.2.1; omega, H2.out, fun t ht => ?_⟩
          rcases Nat.lt_succ_iff_lt_or_eq.1 ht with h | h
          · exact HJ.out.2.2.2.1 t h
          · rw [h, HJ.out.2.2.2.2]; exact HG.out
      | false =>
        rw [g] at HC
        have HF : Hid (r = false) := by
          unfold Hid
          rw [← HR.out, List.all_eq_false]
          refine ⟨x, ?_, by rw [g]; decide⟩
          have h1 : j < S.length := by rw [HQ.out.1]; exact HJ.out.2.1
          rw [← HJ.out.2.2.2.2, List.getD_eq_getElem?_getD, List.getElem?_eq_getElem h1]
          exact List.getElem_mem h1
        clear g
        go_wp2_with fail
        refine HC.out.mono ?_
        rintro e w2 ⟨rfl, hE2⟩
        have H2 := Lib.hid ((HQ.out.2.2.trans HJ.out.2.2.1).trans hE2)
        clear hE2
        go_wp2
        go_ret
        exact ⟨ret_bool HF.out, H2.out⟩
    · have hd : ¬ ((j : Int) < (q : Int)) := by omega
      have HF : Hid (r = true ∧ Ext [] w wr) := by
        refine ⟨?_, HQ.out.2.2.trans hE⟩
        rw [← HR.out, List.all_eq_true]
        intro x hx
        obtain ⟨t, ht, rfl⟩ := List.getElem_of_mem hx
        have := hno t (by have := HQ.out.1; omega)
        rwa [List.getD_eq_getElem?_getD, List.getElem?_eq_getElem ht] at this
      clear hlt hjk hE hno
      go_wp2
      go_ret
      exact ⟨ret_bool HF.out.1, HF.out.2⟩
end Go.Proofs.Ytmfbgkcphiomaaa
