/- TraceCloses: the walk. -/
import Derived.Test.YtmfbgkcphiomaaaTrN
import Derived.Test.YtmfbgkcphiomaaaTcO
namespace Go.Proofs.Ytmfbgkcphiomaaa
open Go Go.RowKit Go.Shelf
attribute [local go_sem] Oper.semAt_some

set_option maxRecDepth 100000 in
set_option maxHeartbeats 4000000 in
theorem tr_closes (ao : Option Addr) (cap : Nat) (L : List Tch) (w : World) (hp : TcAt w w.heap.size ao L) (_ : L.length ≤ maxLen) :
    Calls Try.prog 3 #[.slice ao L.length cap] w fun e w' => e = .returned (.bool true) ∧ Ext [] w w' := by
  by_cases hbig : 60 < L.length
  · have hd : ((60 : Int) < ((L.length : Nat) : Int)) := by omega
    generalize L.length = n at *
    clear hp hbig
    go_enter Try.func3, Try.ntmps3
    go_wp2_with fail
    refine (law05_works _).mono ?_
    rintro e w1 ⟨rfl, hE⟩
    go_wp2
    go_ret
    exact ⟨rfl, hE⟩
  have hd : ¬ ((60 : Int) < ((L.length : Nat) : Int)) := by omega
  have hn : L.length ≤ 60 := by omega
  have HC := Lib.hid (tr_Closed w.heap.size ao cap L w hp (by omega))
  have HK := Lib.hid (fun W (hE : Ext [] w W) => ts_Check w.heap.size ao cap L W (hp.ext0 hE) (by omega))
  have HO := Lib.hid (fun W (hE : Ext [] w W) => tr_Orderly w.heap.size ao cap L W (hp.ext0 hE) (by omega))
  unfold clo at HC
  by_cases hc : tcheck L = 0
  · obtain ⟨hr, _⟩ := tcheck_zero hc
    have HRC := Lib.hid (fun W (hE : Ext [] w W) => ts_Closed w.heap.size ao cap L W (hp.ext0 hE) (by omega) hr)
    have HRO := Lib.hid (fun W (hE : Ext [] w W) => ts_Orderly w.heap.size ao cap L W (hp.ext0 hE) (by omega) hr)
    rw [if_pos hc] at HC
    rw [hc] at HK HO
    rw [show ((0 : Int) == 0 && ordL L) = ordL L from rfl] at HO
    obtain ⟨C, hC⟩ : ∃ C, closedL L = C := ⟨_, rfl⟩
    have hcl : C.1.length ≤ 9223372036854775807 := by
      rw [← hC]
      unfold closedL
      split
      · dsimp only; omega
      · split
        · simp
        · dsimp only; omega
    rw [hC] at HC HRC
    obtain ⟨o, ho⟩ : ∃ o, ordL L = o := ⟨_, rfl⟩
    rw [ho] at HO HRO
    generalize L.length = n at *
    have HCL := Lib.hid hcl
    clear hp hbig hn hc hr hC ho hcl
    obtain ⟨C1, C2⟩ := C
    have g2 : (C2 == C2) = true := by simp
    go_enter Try.func3, Try.ntmps3
    go_wp2_with fail
    refine HC.out.mono ?_
    rintro e w1 ⟨v1, rfl, hE1, hO1⟩
    obtain ⟨co, cc, rfl, hT1, _⟩ := hO1.at (N := w.heap.size)
    have H1 := Lib.hid (And.intro hE1 hT1)
    clear hO1 hE1 hT1
    dsimp only
    go_wp2_with fail
    refine (HK.out _ H1.out.1).mono ?_
    rintro e w2 ⟨rfl, hE2⟩
    have H2 := Lib.hid (And.intro (H1.out.1.trans hE2) (H1.out.2.ext0 hE2))
    clear hE2
    go_wp2_with fail
    refine (HRC.out _ H2.out.1).mono ?_
    rintro e w3 ⟨v2, rfl, hE3, hO3⟩
    obtain ⟨do', dc, rfl, hT3, _⟩ := hO3.at (N := w2.heap.size)
    have H3 := Lib.hid (And.intro (H2.out.1.trans hE3) (And.intro (H2.out.2.ext0 hE3) hT3))
    clear hO3 hE3 hT3
    dsimp only
    go_wp2_with fail
    refine (HO.out _ H3.out.1).mono ?_
    rintro e w4 ⟨rfl, hE4⟩
    have H4 := Lib.hid (And.intro (H3.out.1.trans hE4) (And.intro (H3.out.2.1.ext0 hE4) (H3.out.2.2.ext0 hE4)))
    clear hE4
    go_wp2_with fail
    refine (HRO.out _ H4.out.1).mono ?_
    rintro e w5 ⟨rfl, hE5⟩
    have H5 := Lib.hid (And.intro (H4.out.1.trans hE5) (And.intro (H4.out.2.1.ext0 hE5) (H4.out.2.2.ext0 hE5)))
    clear hE5
    have hoo : (o == o) = true := by simp
    have HS := Lib.hid (ts_Same w.heap.size w2.heap.size co do' cc dc C1 C1 w5 H5.out.2.1 H5.out.2.2 HCL.out HCL.out)
    rw [decide_eq_true rfl] at HS
    go_wp2_with fail
    refine HS.out.mono ?_
    rintro e w6 ⟨rfl, qq, hw6⟩
    have H6 : Hid (Ext [] w w6) := by rw [hw6]; exact H5.out.1.drewN qq
    clear hw6
    go_wp2_with (go_at_call 13; refine (la_num _ _).mono ?_; rintro e w' ⟨rfl, rfl⟩)
    refine (law05_works _).mono ?_
    rintro e w7 ⟨rfl, hE⟩
    go_wp2
    go_ret
    exact ⟨rfl, H6.out.trans hE⟩
  · rw [if_neg hc] at HC
    rw [show (tcheck L == 0 && ordL L) = false from by simp [hc]] at HO
    have g : (tcheck L != 0) = true := by simpa using hc
    obtain ⟨c, hcc⟩ : ∃ c, tcheck L = c := ⟨_, rfl⟩
    rw [hcc] at HC HK g
    have g2 : (c == c) = true := by simp
    generalize L.length = n at *
    clear hp hbig hn hc hcc
    go_enter Try.func3, Try.ntmps3
    go_wp2_with fail
    refine HC.out.mono ?_
    rintro e w1 ⟨v1, rfl, hE1, hO1⟩
    obtain ⟨co, cc, rfl, _, _⟩ := hO1.at (N := w.heap.size)
    have H1 := Lib.hid hE1
    clear hO1 hE1
    dsimp only
    go_wp2_with fail
    refine (HK.out _ H1.out).mono ?_
    rintro e w2 ⟨rfl, hE2⟩
    have H2 := Lib.hid (H1.out.trans hE2)
    clear hE2
    go_wp2_with (go_at_call 13; refine (la_num _ _).mono ?_; rintro e w' ⟨rfl, rfl⟩)
    refine (HO.out _ H2.out).mono ?_
    rintro e w3 ⟨rfl, hE3⟩
    have H3 := Lib.hid (H2.out.trans hE3)
    clear hE3
    go_wp2_with fail
    refine (law05_works _).mono ?_
    rintro e w7 ⟨rfl, hE⟩
    go_wp2
    go_ret
    exact ⟨rfl, H3.out.trans hE⟩
end Go.Proofs.Ytmfbgkcphiomaaa
