/- TraceChecks: the walk. -/
import Derived.Test.YtmfbgkcphiomaaaTrP
import Derived.Test.YtmfbgkcphiomaaaTrN
namespace Go.Proofs.Ytmfbgkcphiomaaa
open Go Go.RowKit Go.Shelf
attribute [local go_sem] Oper.semAt_some

set_option maxRecDepth 100000 in
set_option maxHeartbeats 4000000 in
theorem tr_checks (ao : Option Addr) (cap : Nat) (L : List Tch) (k : Int) (w : World) (hp : TcAt w w.heap.size ao L) (_ : L.length ≤ maxLen) (hk : -9223372036854775808 ≤ k ∧ k ≤ 9223372036854775807) :
    Calls Try.prog 8 #[.slice ao L.length cap, .int .i64 k] w fun e w' => e = .returned (.bool true) ∧ Ext [] w w' := by
  have hwk : wrap64 k = k := IntWalk.wrap64_in _ hk
  clear hk
  by_cases hbig : 200 < L.length
  · have hd : ((200 : Int) < ((L.length : Nat) : Int)) := by omega
    generalize L.length = n at *
    clear hp hbig
    go_enter Try.func8, Try.ntmps8
    go_wp2_with fail
    refine (law05_works _).mono ?_
    rintro e w1 ⟨rfl, hE⟩
    go_wp2
    go_ret
    exact ⟨rfl, hE⟩
  have hd : ¬ ((200 : Int) < ((L.length : Nat) : Int)) := by omega
  have hn : L.length ≤ 200 := by omega
  have HC := Lib.hid (fun W (hE : Ext [] w W) => tc_Check w.heap.size ao cap L W (hp.ext0 hE) (by omega))
  have HT := Lib.hid (fun W (hE : Ext [] w W) => ts_Check w.heap.size ao cap L W (hp.ext0 hE) (by omega))
  have HK := Lib.hid (fun W (hE : Ext [] w W) => tr_Count w.heap.size ao cap L k W (hp.ext0 hE) (by omega))
  have HL := Lib.hid (tr_Lines w.heap.size ao cap L w hp (by omega))
  have HTL := Lib.hid (fun hr W (hE : Ext [] w W) => ts_Lines w.heap.size ao cap L W (hp.ext0 hE) (by omega) hr)
  have hcz : ∀ c, tcheck L = c → c = 0 → ∀ t ∈ L, t.right = true := fun c h1 h2 => (tcheck_zero (h1.trans h2)).1
  have HP := Lib.hid (And.intro hp hn)
  have hlm : linE L = if tcheck L = 0 then (linesL L, 0) else ([], tcheck L) := rfl
  obtain ⟨c, hcc⟩ : ∃ c, tcheck L = c := ⟨_, rfl⟩
  rw [hcc] at HC HT hlm
  have HR := Lib.hid (hcz c hcc)
  have g : (c != c) = false := by simp
  rw [hlm] at HL
  obtain ⟨n, hnl⟩ : ∃ n, L.length = n := ⟨_, rfl⟩
  rw [hnl] at hd HC HK HL HT HTL ⊢
  have HN := Lib.hid hnl
  clear hp hbig hn hcz hlm hcc hnl
  obtain ⟨M, hM⟩ : ∃ M, (if c = 0 then (linesL L, 0) else ([], c) : List Int × Int) = M := ⟨_, rfl⟩
  rw [hM] at HL
  obtain ⟨M1, M2⟩ := M
  have hM2 : M2 = c := by split at hM <;> simp at hM <;> omega
  subst hM2
  have HM := Lib.hid hM
  clear hM
  go_enter Try.func8, Try.ntmps8
  go_wp2_with fail
  refine HL.out.mono ?_
  rintro e w1 ⟨lo, lcap, rfl, hI, hE1⟩
  have H1 := Lib.hid (And.intro hE1 hI)
  clear hE1 hI
  dsimp only
  go_wp2_with fail
  refine (HT.out _ H1.out.1).mono ?_
  rintro e w2 ⟨rfl, hE2⟩
  have H2 := Lib.hid (And.intro (H1.out.1.trans hE2) (H1.out.2.ext hE2 (fun _ _ => by simp)))
  clear hE2
  go_wp2
  clear hd
  go_loopg [8, 9] n (fun cnt v i wr => ∃ j : Nat, v = .int .i64 (cntK (L.take j) k) ∧ i = .int .i64 j ∧ j + cnt = n ∧ Ext [] w2 wr)
  case atStart => exact ⟨0, rfl, rfl, by omega, Ext.refl _ _⟩
  case round =>
    obtain ⟨j, rfl, rfl, hjk, hE⟩ := hrel
    have hcl : cntK (L.take j) k ≤ n := by rw [← HN.out]; unfold cntK; exact Nat.le_trans (List.length_filter_le _ _) (by rw [List.length_take]; omega)
    have hn200 : n ≤ 200 := by rw [← HN.out]; exact HP.out.2
    obtain ⟨q, hqq⟩ : ∃ q, cntK (L.take j) k = q := ⟨_, rfl⟩
    rw [hqq] at hcl ⊢
    by_cases hlt : j < n
    · obtain ⟨b, off, rfl, c0, c1, c2⟩ := (HP.out.1.ext0 (H2.out.1.trans hE)).cells (i := j) (by rw [HN.out]; exact hlt)
      have hjn : (j : Int) < (n : Int) := by omega
      have hj0 : (0 : Int) ≤ (j : Int) := by omega
      have hwj : wrap64 ((j : Int) + 1) = (j : Int) + 1 := IntWalk.wrap64_in _ (by clear hwk; omega)
      have hwc : wrap64 ((q : Int) + 1) = (q : Int) + 1 := IntWalk.wrap64_in _ (by clear hwk; omega)
      have hts := take_snoc (L := L) (j := j) (by rw [HN.out]; exact hlt)
      obtain ⟨t, ht⟩ : ∃ t, t = L.getD j tch0 := ⟨_, rfl⟩
      rw [← ht] at c0 c1 c2 hts
      have hcs : cntK (L.take (j + 1)) k = q + (if (t.kd == k) = true then 1 else 0) := by
        unfold cntK
        rw [hts, List.filter_append, List.length_append, List.filter_cons, List.filter_nil, ← hqq]
        unfold cntK
        split <;> rfl
      have HJ := Lib.hid (And.intro hjk (And.intro hlt (And.intro hcs hE)))
      clear hjk hlt hE hts ht hcs hqq hcl hn200
      cases g1 : (t.kd == k) with
      | true =>
        have HG := Lib.hid (show cntK (L.take (j + 1)) k = q + 1 from by rw [HJ.out.2.2.1, g1]; rfl)
        go_wp2
        go_roundg (n - (j + 1))
        case measure => have := HJ.out.1; have := HJ.out.2.1; clear hwj hwc hwk; omega
        case rel => exact ⟨j + 1, by rw [HG.out]; first | (rw [hwc]; rfl) | rfl, by first | (rw [hwj]; rfl) | rfl, by have := HJ.out.1; have := HJ.out.2.1; clear hwj hwc hwk; omega, HJ.out.2.2.2⟩
      | false =>
        have HG := Lib.hid (show cntK (L.take (j + 1)) k = q from by rw [HJ.out.2.2.1, g1]; rfl)
        go_wp2
        go_roundg (n - (j + 1))
        case measure => have := HJ.out.1; have := HJ.out.2.1; clear hwj hwc hwk; omega
        case rel => exact ⟨j + 1, by rw [HG.out], by first | (rw [hwj]; rfl) | rfl, by have := HJ.out.1; have := HJ.out.2.1; clear hwj hwc hwk; omega, HJ.out.2.2.2⟩
    · have hjn : ¬ ((j : Int) < (n : Int)) := by omega
      have hfull : L.take j = L := by rw [show j = L.length from by rw [HN.out]; omega, List.take_length]
      rw [hfull] at hqq
      have HKq := HK
      rw [hqq] at HKq
      have g2 : ((q : Int) != (q : Int)) = false := by simp
      have HE := Lib.hid (And.intro (H2.out.1.trans hE) (H2.out.2.ext hE (fun _ _ => by simp)))
      clear hjk hE hcl hlt hn200 hfull
      go_wp2_with fail
      refine (HC.out _ HE.out.1).mono ?_
      rintro e w3 ⟨rfl, hE3⟩
      have H3 := Lib.hid (And.intro (HE.out.1.trans hE3) (HE.out.2.ext hE3 (fun _ _ => by simp)))
      clear hE3
      go_wp2_with (go_at_call 13; refine (la_num _ _).mono ?_; rintro e w' ⟨rfl, rfl⟩)
      refine (HKq.out _ H3.out.1).mono ?_
      rintro e w4 ⟨rfl, hE4⟩
      have H4 := Lib.hid (And.intro (H3.out.1.trans hE4) (H3.out.2.ext hE4 (fun _ _ => by simp)))
      clear hE4
      by_cases hc : M2 = 0
      · subst hc
        have hr := HR.out rfl
        have hM1 : M1 = linesL L := by have := HM.out; rw [if_pos rfl] at this; simp at this; first | exact this | exact this.symm
        subst hM1
        have hl1 : (linesL L).length ≤ 1000000 := by have h := upto_len 1024 (fun k => L.any (Tch.on k)); unfold linesL; omega
        have HTR := Lib.hid (fun W (hE : Ext [] w W) => HTL.out hr W hE)
        have HLL := Lib.hid hl1
        clear hr hl1 hqq
        go_wp2_with fail
        refine (HTR.out _ H4.out.1).mono ?_
        rintro e w5 ⟨v, rfl, hO, hE5⟩
        obtain ⟨bo, bcap, rfl, hI5, _⟩ := hO.at
        have H5 := Lib.hid (And.intro (H4.out.1.trans hE5) (And.intro (H4.out.2.ext hE5 (fun _ _ => by simp)) hI5))
        clear hO hI5 hE5
        go_wp2_with fail
        refine (pl_Ints lo bo lcap bcap (linesL L) (linesL L) w5 H5.out.2.1 H5.out.2.2 HLL.out HLL.out).mono ?_
        rintro e w6 ⟨rfl, hE6⟩
        rw [decide_eq_true rfl]
        have H6 := Lib.hid (H5.out.1.trans hE6)
        clear hE6
        go_wp2_with fail
        refine (law05_works _).mono ?_
        rintro e w7 ⟨rfl, hE⟩
        go_wp2
        go_ret
        exact ⟨rfl, H6.out.trans hE⟩
      · have hM1 : M1 = [] := by have := HM.out; rw [if_neg hc] at this; simp at this; first | exact this | exact this.symm
        subst hM1
        have g3 : (M2 != 0) = true := by simpa using hc
        clear hc hqq
        go_wp2_with fail
        refine (law05_works _).mono ?_
        rintro e w7 ⟨rfl, hE⟩
        go_wp2
        go_ret
        exact ⟨rfl, H4.out.1.trans hE⟩
end Go.Proofs.Ytmfbgkcphiomaaa
