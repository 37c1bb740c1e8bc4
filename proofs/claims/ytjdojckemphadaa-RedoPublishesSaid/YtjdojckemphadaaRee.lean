/- The walk of RedoPublishes. -/
import Derived.Test.YtjdojckemphadaaRed
namespace Go.Proofs.Ytjdojckemphadaa
open Go Go.RowKit Go.Shelf
attribute [local go_sem] Oper.semAt_some

/-- the line of a put, as the law reckons it -/
def lnP (P : Nat → Int × Int) (i : Nat) : Int := wrap64 ((P i).1.tdiv 8)
theorem lnP_eq {P : Nat → Int × Int} {i : Nat} (h : 0 ≤ (P i).1 ∧ (P i).1 < 8192) : lnP P i = (P i).1 / 8 := by
  unfold lnP
  rw [Int.tdiv_eq_ediv_of_nonneg h.1]
  exact div_wrap h
theorem stoT_any {n : Nat} {P : Nat → Int × Int} {y : Int} (h : ∀ i, i < n → 0 ≤ (P i).1 ∧ (P i).1 < 8192) : (stoT n P).any (Tch.st y) = true ↔ ∃ i, i < n ∧ lnP P i = y := by
  rw [List.any_eq_true]
  constructor
  · rintro ⟨t, ht, hs⟩
    obtain ⟨i, hi, rfl⟩ := List.mem_map.1 ht
    have hi := List.mem_range.1 hi
    refine ⟨i, hi, ?_⟩
    rw [lnP_eq (h i hi)]
    simpa [Tch.st, Tch.ln] using hs
  · rintro ⟨i, hi, rfl⟩
    refine ⟨_, List.mem_map.2 ⟨i, List.mem_range.2 hi, rfl⟩, ?_⟩
    rw [lnP_eq (h i hi)]
    simp [Tch.st, Tch.ln]
/-- where each put has a line of its own, there are as many touches as Steps says -/
theorem pub_lines {j : Int} {n : Nat} {P : Nat → Int × Int} {cur : Ents} (he : (pubE j n P).2 = 0) (hn : (keysOf cur).Nodup) (hk : ∀ y, y ∈ keysOf cur ↔ ∃ i, i < n ∧ lnP P i = y) (hl : cur.length = n) : stepV n = ((pubE j n P).1.length : Int) := by
  have hp : pubE j n P = (pubT j n P, 0) ∧ checkE P n = 0 := by
    unfold pubE at he ⊢
    by_cases h1 : jOk j = true ∧ anyP (fun q => jHas j q.1) P n = false
    · rw [if_pos h1] at he ⊢
      by_cases h2 : checkE P n = 0
      · rw [if_pos h2]; exact ⟨rfl, h2⟩
      · rw [if_neg h2] at he; exact absurd he h2
    · rw [if_neg h1] at he; cases he
  obtain ⟨hok, h11, h0⟩ := checkE_ok hp.2
  have hb : ∀ i, i < n → 0 ≤ (P i).1 ∧ (P i).1 < 8192 := fun i hi => okN_at hok i hi
  have hsk : sortK cur = storedL (stoT n P) := sortK_upto hn (fun k => by
    rw [hk, ← stoT_any hb]
    exact ⟨fun h => mem_upto.1 ((mem_storedL (stoT_right hb)).2 h), fun h => h.2.2⟩)
  rw [hp.1]
  show stepV n = ((pubT j n P).length : Int)
  rw [pubT_len (by rw [← hsk, sortK_len, hl])]
  unfold stepV
  rw [if_neg (by omega)]
  rfl

set_option maxRecDepth 100000 in
set_option maxHeartbeats 8000000 in
theorem law_pubs (j : Int) (ao : Option Addr) (n cap : Nat) (P : Nat → Int × Int) (w : World) (hp : Puts w ao n P) (hn : n ≤ 9223372036854775807) :
    Calls Try.prog 3 #[.int .i64 j, .slice ao n cap] w fun e w' => e = .returned (.bool true) ∧ Ext [] w w' := by
  have HW := Lib.hid law19_works
  have hmm := @run_makeMap Try.prog
  by_cases hn14 : 14 < n
  · have hd : ((14 : Int) < (n : Int)) := by omega
    clear hn14 hp hn
    go_enter Try.func3, Try.ntmps3
    go_wp2_with fail
    refine (HW.out _).mono ?_
    rintro e w1 ⟨rfl, hE⟩
    have HE := Lib.hid hE
    clear hE
    go_wp2
    go_ret
    exact ⟨rfl, HE.out⟩
  · have hd : ¬ ((14 : Int) < (n : Int)) := by omega
    have HP := Lib.hid (And.intro hp hn14)
    have H1 := Lib.hid (rd_Publish j ao n cap P w hp hn)
    have H2 := Lib.hid (fun W (hE : Ext [] w W) => rf_Publish j ao n cap P W (hp.ext hE) hn)
    have HPL := Lib.hid (fun cur => pub_lines (j := j) (n := n) (P := P) (cur := cur))
    have hTl : (pubE j n P).1.length ≤ 100000 := by
      unfold pubE
      split
      · split
        · rename_i h1 h2
          have h3 := checkE_ok h2
          have h4 : (storedL (stoT n P)).length ≤ 1024 := upto_len _ _
          show (pubT j n P).length ≤ 100000
          unfold pubT
          split
          · rw [appT_len]; omega
          · simp only [List.length_append, appT_len, fstT, wrT, wrS_len, List.length_cons, List.length_nil]
            omega
        · simp
      · simp
    obtain ⟨C, hC⟩ : ∃ C, pubE j n P = C := ⟨_, rfl⟩
    rw [hC] at H1 H2 HPL hTl
    obtain ⟨T, ce⟩ := C
    unfold PubPost at H1 H2
    dsimp only at H1 H2 HPL hTl
    obtain ⟨tl, htl⟩ : ∃ tl, T.length = tl := ⟨_, rfl⟩
    rw [htl] at HPL
    obtain ⟨v, hv⟩ : ∃ v, idxV (idxT (sealP j) T) = v := ⟨_, rfl⟩
    obtain ⟨mv, hmv⟩ : ∃ mv, max 0 v = mv := ⟨_, rfl⟩
    obtain ⟨B, hB⟩ : ∃ B, decide (0 ≤ v) = B := ⟨_, rfl⟩
    have HT := Lib.hid (And.intro htl (And.intro hv (And.intro hTl (And.intro hmv hB))))
    clear hp hn hC htl hv hTl
    go_enter Try.func3, Try.ntmps3
    go_wp2_with fail
    refine H1.out.mono ?_
    rintro e w1 ⟨v1, rfl, hE1, hT1⟩
    obtain ⟨a1, c1, rfl, hA1, _, _⟩ := hT1.at (N := 0)
    rw [HT.out.1]
    have K1 := Lib.hid (And.intro hE1 hA1)
    clear hE1 hT1 hA1
    go_wp2_with fail
    refine (H2.out _ K1.out.1).mono ?_
    rintro e w2 ⟨v2, rfl, hE2, hT2⟩
    obtain ⟨a2, c2, rfl, hA2, _, _⟩ := hT2.at (N := 0)
    rw [HT.out.1]
    have K2 := Lib.hid (And.intro (K1.out.1.trans hE2) (And.intro (K1.out.2.ext0 hE2) hA2))
    clear hE2 hT2 hA2
    have HS1 := Lib.hid (rd_Sealed j 0 a1 tl c1 T w2 K2.out.2.1 HT.out.1 (by have := HT.out.2.2.1; have := HT.out.1; omega))
    rw [HT.out.2.1, hmv, hB] at HS1
    go_wp2_with fail
    refine HS1.out.mono ?_
    rintro e w3 ⟨rfl, hE3⟩
    have K3 := Lib.hid (And.intro (K2.out.1.trans hE3) (And.intro (K2.out.2.1.ext0 hE3) (K2.out.2.2.ext0 hE3)))
    clear hE3
    have HS2 := Lib.hid (rf_Sealed j 0 a2 tl c2 T w3 K3.out.2.2 HT.out.1 (by have := HT.out.2.2.1; have := HT.out.1; omega))
    rw [HT.out.2.1] at HS2
    go_wp2_with fail
    refine HS2.out.mono ?_
    rintro e w4 ⟨rfl, rfl⟩
    go_wp2
    obtain ⟨mb, hmb⟩ : ∃ mb, w4.heap.size = mb := ⟨_, rfl⟩
    try rw [hmb]
    go_loopg [13] n (fun cnt i wr => ∃ k : Nat, i = .int .i64 k ∧ k + cnt = n ∧ Ext [] w4 wr ∧ ∃ cur, IMap wr mb cur ∧ ∀ y, y ∈ keysOf cur ↔ ∃ i, i < k ∧ lnP P i = y)
    case atStart => exact ⟨0, rfl, by omega, (Ext.refl _ _).alloc _, [], by rw [← hmb]; exact IMap.made w4, fun y => by simp [keysOf]⟩
    case round =>
      obtain ⟨k, rfl, hk, hE, cur, hM, hks⟩ := hrel
      by_cases hlt : k < n
      · obtain ⟨b, off, rfl, c0, _⟩ : ∃ b off, ao = some ⟨b, off, none⟩ ∧ wr.cell? ⟨b, off + k * 2, none⟩ = some (.int .i64 (P k).1) ∧ wr.cell? ⟨b, off + k * 2 + 1, none⟩ = some (.int .u64 (P k).2) := by
          rcases HP.out.1.ext (K3.out.1.trans hE) with h | ⟨b, off, h1, h2⟩
          · omega
          · exact ⟨b, off, h1, h2 k hlt⟩
        have hln : wrap64 ((P k).1.tdiv 8) = lnP P k := rfl
        obtain ⟨a, ha⟩ : ∃ a, (P k).1 = a := ⟨_, rfl⟩
        obtain ⟨y, hy⟩ : ∃ y, lnP P k = y := ⟨_, rfl⟩
        rw [ha] at c0 hln
        rw [hy] at hln
        have hk0 : (0 : Int) ≤ (k : Int) := by omega
        have hk1 : (k : Int) < (n : Int) := by omega
        have hwj : wrap64 ((k : Int) + 1) = (k : Int) + 1 := IntWalk.wrap64_in _ (by have := HP.out.2; clear hln; omega)
        obtain ⟨W2, hset, hE2, hm2, hs2⟩ := run_mapSet' (P := Try.prog) 33 3 3 Try.underlying33 Try.underlying3 hM y (.int .i64 1)
        have HR : Hid (Ext [] w4 W2 ∧ ∃ cur, IMap W2 mb cur ∧ ∀ y, y ∈ keysOf cur ↔ ∃ i, i < k + 1 ∧ lnP P i = y) := by
          refine ⟨hE.trans' hE2 (fun i hi => .inr (by simp at hi; rw [hi, ← hmb]; exact Nat.le_refl _)), _, hm2, fun z => ?_⟩
          rw [mem_keys_upd, hks]
          constructor
          · rintro (rfl | ⟨i, hi, h⟩)
            · exact ⟨k, Nat.lt_succ_self k, hy⟩
            · exact ⟨i, Nat.lt_succ_of_lt hi, h⟩
          · rintro ⟨i, hi, h⟩
            rcases Nat.lt_succ_iff_lt_or_eq.1 hi with h1 | h1
            · exact .inr ⟨i, h1, h⟩
            · subst h1; exact .inl (by rw [← h, hy])
        have HK := Lib.hid (And.intro hk hlt)
        clear hk hlt ha hy hE hM hks hE2 hm2 hs2 hmb
        go_wp2
        go_roundg (n - (k + 1))
        case measure => have := HK.out; clear hwj hln; omega
        case rel => exact ⟨k + 1, by first | (rw [hwj]; rfl) | rfl, by have := HK.out; clear hwj hln; omega, HR.out⟩
      · have hjn : ¬ ((k : Int) < (n : Int)) := by omega
        obtain rfl : k = n := by omega
        have hle := run_lenMap (P := Try.prog) 33 3 3 3 Try.underlying33 hM
        have HPC := Lib.hid (fun he => HPL.out cur he hM.nodup hks)
        have H4 := Lib.hid (And.intro (K3.out.1.trans hE) (And.intro (K3.out.2.1.ext0 hE) (K3.out.2.2.ext0 hE)))
        have HSA := Lib.hid (fun W (hE : Ext [] wr W) => ts_Same 0 0 a1 a2 c1 c2 T T W (H4.out.2.1.ext0 hE) (H4.out.2.2.ext0 hE) (by have := HT.out.2.2.1; omega) (by have := HT.out.2.2.1; omega))
        rw [decide_eq_true rfl, HT.out.1] at HSA
        obtain ⟨cl, hcl⟩ : ∃ cl, cur.length = cl := ⟨_, rfl⟩
        rw [hcl] at hle HPC
        clear hk hlt hE hM hks hcl hmb
        by_cases hc : ce = 0
        · subst hc
          by_cases hcn : cl = k
          · subst hcn
            have g : ((cl : Int) == (cl : Int)) = true := by simp
            have HST := Lib.hid (rd_Steps cl)
            rw [HPC.out rfl rfl] at HST
            have g2 : ((tl : Int) != (tl : Int)) = false := by simp
            go_wp2_with fail
            refine (HST.out _).mono ?_
            rintro e w5 ⟨rfl, hE5⟩
            have HX := Lib.hid hE5
            clear hE5
            go_wp2_with fail
            refine (HSA.out _ HX.out).mono ?_
            rintro e w6 ⟨rfl, q, hq⟩
            have HX6 : Hid (Ext [] wr w6) := by rw [hq]; exact HX.out.drewN q
            clear hq
            go_wp2_with (go_at_call 12; refine (la_num _ _).mono ?_; rintro e w' ⟨rfl, rfl⟩)
            try rw [hmv]
            try rw [hB]
            refine (HW.out _).mono ?_
            rintro e w7 ⟨rfl, hE7⟩
            have H7 := Lib.hid (H4.out.1.trans (HX6.out.trans hE7))
            clear hE7
            go_wp2
            go_ret
            exact ⟨rfl, H7.out⟩
        
          · have g : ((cl : Int) == (k : Int)) = false := by simp; omega
            have HX : Hid (Ext [] wr wr) := Ext.refl _ _
            clear hcn
            go_wp2_with fail
            refine (HSA.out _ HX.out).mono ?_
            rintro e w6 ⟨rfl, q, hq⟩
            have HX6 : Hid (Ext [] wr w6) := by rw [hq]; exact HX.out.drewN q
            clear hq
            go_wp2_with (go_at_call 12; refine (la_num _ _).mono ?_; rintro e w' ⟨rfl, rfl⟩)
            try rw [hmv]
            try rw [hB]
            refine (HW.out _).mono ?_
            rintro e w7 ⟨rfl, hE7⟩
            have H7 := Lib.hid (H4.out.1.trans (HX6.out.trans hE7))
            clear hE7
            go_wp2
            go_ret
            exact ⟨rfl, H7.out⟩
        
        · have g : (ce == 0) = false := by simpa using hc
          have HX : Hid (Ext [] wr wr) := Ext.refl _ _
          clear hc
          go_wp2_with fail
          refine (HSA.out _ HX.out).mono ?_
          rintro e w6 ⟨rfl, q, hq⟩
          have HX6 : Hid (Ext [] wr w6) := by rw [hq]; exact HX.out.drewN q
          clear hq
          go_wp2_with (go_at_call 12; refine (la_num _ _).mono ?_; rintro e w' ⟨rfl, rfl⟩)
          try rw [hmv]
          try rw [hB]
          refine (HW.out _).mono ?_
          rintro e w7 ⟨rfl, hE7⟩
          have H7 := Lib.hid (H4.out.1.trans (HX6.out.trans hE7))
          clear hE7
          go_wp2
          go_ret
          exact ⟨rfl, H7.out⟩
end Go.Proofs.Ytjdojckemphadaa
