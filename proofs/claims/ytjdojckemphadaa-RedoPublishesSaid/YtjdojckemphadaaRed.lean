/- The walk of RedoSteps. -/
import Derived.Test.YtjdojckemphadaaRec
namespace Go.Proofs.Ytjdojckemphadaa
open Go Go.RowKit Go.Shelf
attribute [local go_sem] Oper.semAt_some

theorem stepV_one : stepV 1 = 3 := rfl
theorem stepV_many {m : Int} (h1 : 1 < m) (h2 : m ≤ 11) : stepV m = 34 + 2 * m := by
  unfold stepV stepN
  rw [if_neg (by omega), if_neg (by omega)]
  omega
theorem stepV_none {m : Int} (h : m < 1 ∨ 11 < m) : stepV m = 0 := if_pos h
set_option maxRecDepth 100000 in
set_option maxHeartbeats 4000000 in
theorem law_steps (m j : Int) (ao : Option Addr) (cap : Nat) (L : List Tch) (w : World) (hL : TcAt w w.heap.size ao L) (hl : L.length ≤ 9223372036854775807) :
    Calls Try.prog 4 #[.int .i64 m, .int .i64 j, .slice ao L.length cap] w fun e w' => e = .returned (.bool true) ∧ Ext [] w w' := by
  have HW := Lib.hid law19_works
  have HS1 := Lib.hid (rd_Sealed j w.heap.size ao L.length cap L w hL rfl hl)
  have HS2 := Lib.hid (fun W (hE : Ext [] w W) => rf_Sealed j w.heap.size ao L.length cap L W (hL.ext0 hE) rfl hl)
  have HST := Lib.hid (rd_Steps m)
  obtain ⟨v, hv⟩ : ∃ v, idxV (idxT (sealP j) L) = v := ⟨_, rfl⟩
  rw [hv] at HS1 HS2
  obtain ⟨n, hn⟩ : ∃ n, L.length = n := ⟨_, rfl⟩
  rw [hn] at HS1 HS2 ⊢
  obtain ⟨mv, hmv⟩ : ∃ mv, max 0 v = mv := ⟨_, rfl⟩
  obtain ⟨B, hB⟩ : ∃ B, decide (0 ≤ v) = B := ⟨_, rfl⟩
  rw [hmv, hB] at HS1
  clear hL hl hv hn
  by_cases hn60 : 60 < n
  · have hd : ((60 : Int) < (n : Int)) := by omega
    clear hn60
    go_enter Try.func4, Try.ntmps4
    go_wp2_with fail
    refine (HW.out _).mono ?_
    rintro e w1 ⟨rfl, hE⟩
    have HE := Lib.hid hE
    clear hE
    go_wp2
    go_ret
    exact ⟨rfl, HE.out⟩
  · have hd : ¬ ((60 : Int) < (n : Int)) := by omega
    clear hn60
    by_cases h1 : m = 1
    · subst h1
      rw [stepV_one] at HST
      go_enter Try.func4, Try.ntmps4
      go_wp2_with fail
      refine HS1.out.mono ?_
      rintro e w1 ⟨rfl, hE1⟩
      have H1 := Lib.hid hE1
      clear hE1
      go_wp2_with fail
      refine (HS2.out _ H1.out).mono ?_
      rintro e w2 ⟨rfl, rfl⟩
      go_wp2_with fail
      refine (HST.out _).mono ?_
      rintro e w3 ⟨rfl, hE3⟩
      have H3 := Lib.hid (H1.out.trans hE3)
      clear hE3
      go_wp2_with fail
      try rw [hmv]
      refine (HW.out _).mono ?_
      rintro e w4 ⟨rfl, hE4⟩
      have H4 := Lib.hid (H3.out.trans hE4)
      clear hE4
      go_wp2
      go_ret
      exact ⟨rfl, H4.out⟩
    · have g1 : (m == 1) = false := by simpa using h1
      by_cases h2 : 1 < m
      · have g2 : decide (1 < m) = true := decide_eq_true h2
        by_cases h3 : m ≤ 11
        · have g3 : decide (m ≤ 11) = true := decide_eq_true h3
          have hw1 : wrap64 (2 * m) = 2 * m := IntWalk.wrap64_in _ (by omega)
          have hw2 : wrap64 (34 + 2 * m) = 34 + 2 * m := IntWalk.wrap64_in _ (by omega)
          rw [stepV_many h2 h3] at HST
          clear h1
          go_enter Try.func4, Try.ntmps4
          go_wp2_with fail
          refine HS1.out.mono ?_
          rintro e w1 ⟨rfl, hE1⟩
          have H1 := Lib.hid hE1
          clear hE1
          go_wp2_with fail
          refine (HS2.out _ H1.out).mono ?_
          rintro e w2 ⟨rfl, rfl⟩
          go_wp2_with fail
          refine (HST.out _).mono ?_
          rintro e w3 ⟨rfl, hE3⟩
          have H3 := Lib.hid (H1.out.trans hE3)
          clear hE3
          go_wp2_with fail
          try rw [hmv]
          refine (HW.out _).mono ?_
          rintro e w4 ⟨rfl, hE4⟩
          have H4 := Lib.hid (H3.out.trans hE4)
          clear hE4
          go_wp2
          go_ret
          exact ⟨rfl, H4.out⟩
        · have g3 : decide (m ≤ 11) = false := decide_eq_false h3
          rw [stepV_none (by omega)] at HST
          clear h1
          go_enter Try.func4, Try.ntmps4
          go_wp2_with fail
          refine HS1.out.mono ?_
          rintro e w1 ⟨rfl, hE1⟩
          have H1 := Lib.hid hE1
          clear hE1
          go_wp2_with fail
          refine (HS2.out _ H1.out).mono ?_
          rintro e w2 ⟨rfl, rfl⟩
          go_wp2_with fail
          refine (HST.out _).mono ?_
          rintro e w3 ⟨rfl, hE3⟩
          have H3 := Lib.hid (H1.out.trans hE3)
          clear hE3
          go_wp2_with fail
          try rw [hmv]
          refine (HW.out _).mono ?_
          rintro e w4 ⟨rfl, hE4⟩
          have H4 := Lib.hid (H3.out.trans hE4)
          clear hE4
          go_wp2
          go_ret
          exact ⟨rfl, H4.out⟩
      · have g2 : decide (1 < m) = false := decide_eq_false h2
        rw [stepV_none (by omega)] at HST
        clear h1
        go_enter Try.func4, Try.ntmps4
        go_wp2_with fail
        refine HS1.out.mono ?_
        rintro e w1 ⟨rfl, hE1⟩
        have H1 := Lib.hid hE1
        clear hE1
        go_wp2_with fail
        refine (HS2.out _ H1.out).mono ?_
        rintro e w2 ⟨rfl, rfl⟩
        go_wp2_with fail
        refine (HST.out _).mono ?_
        rintro e w3 ⟨rfl, hE3⟩
        have H3 := Lib.hid (H1.out.trans hE3)
        clear hE3
        go_wp2_with fail
        try rw [hmv]
        refine (HW.out _).mono ?_
        rintro e w4 ⟨rfl, hE4⟩
        have H4 := Lib.hid (H3.out.trans hE4)
        clear hE4
        go_wp2
        go_ret
        exact ⟨rfl, H4.out⟩
end Go.Proofs.Ytjdojckemphadaa
