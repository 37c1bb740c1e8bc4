/- TraceCounts: the walk. -/
import Derived.Test.YtmfbgkcphiomaaaTrP
import Derived.Test.YtmfbgkcphiomaaaTrN
namespace Go.Proofs.Ytmfbgkcphiomaaa
open Go Go.RowKit Go.Shelf
attribute [local go_sem] Oper.semAt_some

/-- touches of the kinds 1 to j -/
def cntS (L : List Tch) : Nat → Nat
  | 0 => 0
  | j + 1 => cntS L j + cntK L ((j : Int) + 1)
theorem cntK_cons (t : Tch) (L : List Tch) (k : Int) : cntK (t :: L) k = (if t.kd = k then 1 else 0) + cntK L k := by
  unfold cntK
  rw [List.filter_cons]
  by_cases h : t.kd = k
  · rw [if_pos (show (t.kd == k) = true from by simpa using h), if_pos h, List.length_cons, Nat.add_comm]
  · rw [if_neg (show ¬ (t.kd == k) = true from by simpa using h), if_neg h, Nat.zero_add]
theorem cntS_all {L : List Tch} (h : ∀ t ∈ L, t.right = true) : cntS L 4 = L.length ∧ cntK L 0 = 0 := by
  show 0 + cntK L ((0 : Nat) + 1) + cntK L ((1 : Nat) + 1) + cntK L ((2 : Nat) + 1) + cntK L ((3 : Nat) + 1) = L.length ∧ _
  induction L with
  | nil => exact ⟨rfl, rfl⟩
  | cons t L ih =>
    have ih := ih (fun x hx => h x (List.mem_cons_of_mem _ hx))
    have hk := Tch.right_kind (h t (List.mem_cons_self ..))
    simp only [cntK_cons, List.length_cons]
    rcases hk with e | e | e | e <;> rw [e] <;> simp at ih ⊢ <;> omega
theorem cntK_le (L : List Tch) (k : Int) : cntK L k ≤ L.length := List.length_filter_le _ _
theorem cntS_le (L : List Tch) : ∀ j, cntS L j ≤ j * L.length
  | 0 => Nat.zero_le _
  | j + 1 => by
    have h1 := cntS_le L j
    have h2 := cntK_le L ((j : Int) + 1)
    unfold cntS
    rw [Nat.add_mul, Nat.one_mul]
    omega

set_option maxRecDepth 100000 in
set_option maxHeartbeats 4000000 in
theorem tr_counts (ao : Option Addr) (cap : Nat) (L : List Tch) (w : World) (hp : TcAt w w.heap.size ao L) (_ : L.length ≤ maxLen) :
    Calls Try.prog 9 #[.slice ao L.length cap] w fun e w' => e = .returned (.bool true) ∧ Ext [] w w' := by
  by_cases hbig : 60 < L.length
  · have hd : ((60 : Int) < ((L.length : Nat) : Int)) := by omega
    generalize L.length = n at *
    clear hp hbig
    go_enter Try.func9, Try.ntmps9
    go_wp2_with fail
    refine (law05_works _).mono ?_
    rintro e w1 ⟨rfl, hE⟩
    go_wp2
    go_ret
    exact ⟨rfl, hE⟩
  have hd : ¬ ((60 : Int) < ((L.length : Nat) : Int)) := by omega
  have hn : L.length ≤ 60 := by omega
  have HC := Lib.hid (tc_Check w.heap.size ao cap L w hp (by omega))
  have HK := Lib.hid (fun k W (hE : Ext [] w W) => tr_Count w.heap.size ao cap L k W (hp.ext0 hE) (by omega))
  have HL := Lib.hid (fun W (hE : Ext [] w W) => tr_Lines w.heap.size ao cap L W (hp.ext0 hE) (by omega))
  by_cases hc : tcheck L = 0
  · obtain ⟨hr, _⟩ := tcheck_zero hc
    obtain ⟨ha, h0⟩ := cntS_all hr
    have hcl : ∀ j, j ≤ 4 → cntS L j ≤ 240 ∧ cntK L ((j : Int) + 1) ≤ 60 := fun j hj => ⟨by have := cntS_le L j; have : j * L.length ≤ 4 * 60 := Nat.mul_le_mul hj hn; omega, by have := cntK_le L ((j : Int) + 1); omega⟩
    have hlm := linesL_le hr
    rw [show linE L = (linesL L, 0) from by unfold linE; rw [if_pos hc]] at HL
    rw [hc] at HC
    obtain ⟨n, hnl⟩ : ∃ n, L.length = n := ⟨_, rfl⟩
    rw [hnl] at hd HC HK HL ha hlm ⊢
    have HA := Lib.hid (And.intro ha (And.intro h0 hcl))
    have hlm2 : ((linesL L).length : Int) ≤ (n : Int) := by omega
    have HLM := Lib.hid hlm2
    clear hp hbig hn hc hr ha h0 hcl hlm hlm2 hnl
    go_enter Try.func9, Try.ntmps9
    go_wp2_with fail
    refine HC.out.mono ?_
    rintro e w1 ⟨rfl, hE1⟩
    have H1 := Lib.hid hE1
    clear hE1
    go_wp2_with (go_at_call 13; refine (la_num _ _).mono ?_; rintro e w' ⟨rfl, rfl⟩)
    clear hd
    go_loopg [3, 4] 4 (fun c v i wr => ∃ j : Nat, v = .int .i64 (cntS L j) ∧ i = .int .i64 ((j : Int) + 1) ∧ j + c = 4 ∧ Ext [] w wr)
    case atStart => exact ⟨0, rfl, rfl, rfl, H1.out⟩
    case round =>
      obtain ⟨j, rfl, rfl, hjk, hE⟩ := hrel
      have hj4 : j ≤ 4 := by omega
      obtain ⟨h1, h2⟩ := HA.out.2.2 j hj4
      obtain ⟨x, hx⟩ : ∃ x, (j : Int) + 1 = x := ⟨_, rfl⟩
      have hsc : cntS L (j + 1) = cntS L j + cntK L x := by rw [← hx]; rfl
      rw [hx] at h2 ⊢
      obtain ⟨a, ha⟩ : ∃ a, cntS L j = a := ⟨_, rfl⟩
      obtain ⟨b, hb⟩ : ∃ b, cntK L x = b := ⟨_, rfl⟩
      have HKx := Lib.hid (HK.out x wr hE)
      rw [hb] at HKx
      rw [ha] at h1 hsc ⊢
      rw [hb] at h2 hsc
      by_cases hlt : x ≤ 4
      · have hwx : wrap64 (x + 1) = x + 1 := IntWalk.wrap64_in _ (by omega)
        have hwx0 : wrap64 x = x := IntWalk.wrap64_in _ (by omega)
        have hws : wrap64 ((a : Int) + (b : Int)) = (a : Int) + (b : Int) := IntWalk.wrap64_in _ (by omega)
        have HJ := Lib.hid (And.intro hjk (And.intro hx (And.intro hsc (And.intro hE hlt))))
        clear hjk hx hsc hE h1 h2 ha hb hj4
        go_wp2_with fail
        refine HKx.out.mono ?_
        rintro e w2 ⟨rfl, hE2⟩
        have H2 := Lib.hid (HJ.out.2.2.2.1.trans hE2)
        clear hE2
        go_wp2
        go_roundg (4 - (j + 1))
        case measure => have := HJ.out.1; have := HJ.out.2.1; have := HJ.out.2.2.2.2; clear hwx hws; omega
        case rel =>
          refine ⟨j + 1, ?_, ?_, by have := HJ.out.1; have := HJ.out.2.1; have := HJ.out.2.2.2.2; clear hwx hws; omega, H2.out⟩
          · rw [HJ.out.2.2.1]; first | (rw [hws]; rfl) | rfl
          · first | (rw [hwx, ← HJ.out.2.1]; rfl) | (rw [← HJ.out.2.1]; rfl)
      · obtain rfl : j = 4 := by omega
        have han : a = n := by rw [← ha]; exact HA.out.1
        subst han
        have HLx := Lib.hid (HL.out wr hE)
        have HE := Lib.hid (And.intro hE hx)
        clear hjk hx hsc hE h1 h2 ha hb hj4 HKx
        go_wp2_with fail
        refine HLx.out.mono ?_
        rintro e w2 ⟨lo, lcap, rfl, _, hE2⟩
        have H2 := Lib.hid (HE.out.1.trans hE2)
        have hlm2 := HLM.out
        generalize (linesL L).length = lm at *
        dsimp only
        have HK0 := Lib.hid (HK.out 0 w2 H2.out)
        rw [HA.out.2.1] at HK0
        clear hE2 hlt
        go_wp2_with (first
          | (go_at_call 13; refine (la_num _ _).mono ?_; rintro e w' ⟨rfl, rfl⟩))
        refine HK0.out.mono ?_
        rintro e w3 ⟨rfl, hE3⟩
        have H3 := Lib.hid (H2.out.trans hE3)
        clear hE3
        go_wp2_with fail
        refine (law05_works _).mono ?_
        rintro e w7 ⟨rfl, hE⟩
        go_wp2
        go_ret
        exact ⟨rfl, H3.out.trans hE⟩
  · have g : (tcheck L != 0) = true := by simpa using hc
    generalize tcheck L = c at *
    generalize L.length = n at *
    clear hp hbig hn hc HK HL
    go_enter Try.func9, Try.ntmps9
    go_wp2_with fail
    refine HC.out.mono ?_
    rintro e w1 ⟨rfl, hE1⟩
    have H1 := Lib.hid hE1
    clear hE1
    go_wp2_with (go_at_call 13; refine (la_num _ _).mono ?_; rintro e w' ⟨rfl, rfl⟩)
    refine (law05_works _).mono ?_
    rintro e w7 ⟨rfl, hE⟩
    go_wp2
    go_ret
    exact ⟨rfl, H1.out.trans hE⟩
end Go.Proofs.Ytmfbgkcphiomaaa
