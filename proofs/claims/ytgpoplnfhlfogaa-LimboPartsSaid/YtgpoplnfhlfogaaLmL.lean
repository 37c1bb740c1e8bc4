/- The walk of the law LimboParts (printed by wip/mkLmL.py). -/
import Derived.Test.YtgpoplnfhlfogaaLmK
namespace Go.Proofs.Ytgpoplnfhlfogaa
open Go Go.RowKit Go.Shelf
attribute [local go_sem] Oper.semAt_some

theorem lst_len' (L : Nat → Int) (n : Nat) : (lst L n).length = n := by unfold lst; simp
theorem intsB_lst {w : World} {ao : Option Addr} {n : Nat} {L : Nat → Int} (h : IntsB w ao n L) : IntsB w ao (lst L n).length (fun i => (lst L n).getD i 0) := by
  rw [lst_len']
  rcases h with h | ⟨b, off, h1, h2⟩
  · exact .inl h
  · refine .inr ⟨b, off, h1, fun i hi => ?_⟩
    rw [h2 i hi]
    unfold lst
    simp [hi]
set_option maxRecDepth 100000 in
set_option maxHeartbeats 16000000 in
theorem lm_parts (ao : Option Addr) (n cap : Nat) (A : Nat → ActV) (a2 : Option Addr) (n2 cap2 : Nat) (L2 : Nat → Int) (w : World) (hp : Acts w ao n A) (hA : ∀ i, i < n → ActOk (A i)) (hn : n ≤ 9223372036854775807) (hI2 : IntsB w a2 n2 L2) (hn2 : n2 ≤ 9223372036854775807) :
    Calls Try.prog 8 #[.slice ao n cap, .slice a2 n2 cap2] w fun e w' => e = .returned (.bool true) ∧ Ext [] w w' := by
  have HW := Lib.hid law15_works
  have HF := Lib.hid (lm_few ao n cap A 24 w hp hn (fun i hi => by have := (hA i hi).2.2.1; unfold maxLen at this; omega))
  have HP := Lib.hid (And.intro hp (And.intro hA hI2))
  clear hp hA hI2
  cases hf : fewB n A 24 with
  | false =>
    rw [hf] at HF
    clear hf
    go_enter Try.func8, Try.ntmps8
    go_wp2_with fail
    refine HF.out.mono ?_
    rintro e w' ⟨rfl, rfl⟩
    go_wp2_with fail
    refine (HW.out _).mono ?_
    rintro e w2 ⟨rfl, hE2⟩
    go_wp2
    go_ret
    exact ⟨rfl, hE2⟩
  | true =>
    have HFW := Lib.hid (fewB_true hf)
    rw [hf] at HF
    clear hf
    by_cases h6 : 6 < n2
    · have hd : decide ((6 : Int) < (n2 : Int)) = true := by simp; omega
      go_enter Try.func8, Try.ntmps8
      go_wp2_with fail
      refine HF.out.mono ?_
      rintro e w' ⟨rfl, rfl⟩
      go_wp2_with fail
      refine (HW.out _).mono ?_
      rintro e w2 ⟨rfl, hE2⟩
      go_wp2
      go_ret
      exact ⟨rfl, hE2⟩
    have hd : decide ((6 : Int) < (n2 : Int)) = false := by simp; omega
    have H6 := Lib.hid (show n2 ≤ 6 by omega)
    have HN := Lib.hid (lm_New 3 14 w (by omega) (by omega) (by omega))
    rw [show (3 : Int) + ((14 : Nat) : Int) - 1 = 16 from rfl] at HN
    clear h6
    go_enter Try.func8, Try.ntmps8
    go_wp2_with fail
    refine HF.out.mono ?_
    rintro e w' ⟨rfl, rfl⟩
    go_wp2_with fail
    refine HN.out.mono ?_
    rintro e V1 ⟨b, c, m, p, mb, rfl, hE1, hL1, hb, hc, hm, hpp, hmb⟩
    have HS0 : Hid (PSt w V1 b 0) := by
      refine ⟨c, m, p, mb, 0, [], S0, _, _, _, hL1, hE1, ?_, COk.nil, by omega, fun q => by simp [S0], fun k => by simp⟩
      rintro x (rfl | rfl | rfl | rfl | rfl | ⟨k, hk, q, hq, rfl⟩)
      · exact hb
      · exact hc
      · exact hm
      · exact hpp
      · exact hmb
      · cases hq
    clear hE1 hL1 hb hc hm hpp hmb HN HF hd
    go_wp2_with fail
    go_loopg [7] n (fun k i wr => ∃ j : Nat, i = .int .i64 (j : Int) ∧ j + k = n ∧ PSt w wr b j)
    case atStart => exact ⟨0, rfl, by omega, HS0.out⟩
    case round =>
      clear HS0
      obtain ⟨j, rfl, hjk, hst⟩ := hrel
      by_cases hlt : j < n
      · have hn24 : (n : Int) ≤ 24 := HFW.out.2
        have hac := HP.out.2.1 j hlt
        have hfw := HFW.out.1 j hlt
        have hEw : Ext [] w wr := by obtain ⟨_, _, _, _, _, _, _, _, _, _, _, h2, _⟩ := hst; exact h2
        obtain ⟨bb, off, rfl, k0, k1, k2, hints⟩ : ∃ bb off, ao = some ⟨bb, off, none⟩ ∧ wr.cell? ⟨bb, off + j * 3, none⟩ = some (.int .i64 (A j).what) ∧ wr.cell? ⟨bb, off + j * 3 + 1, none⟩ = some (.int .i64 (A j).many) ∧ wr.cell? ⟨bb, off + j * 3 + 2, none⟩ = some (.slice (A j).bo (A j).n (A j).cap) ∧ IntsB wr (A j).bo (A j).n (A j).L := by
          rcases HP.out.1.ext hEw with h | ⟨bb, off, h1, h2⟩
          · omega
          · obtain ⟨c0, c1, c2, c3⟩ := h2 j hlt
            exact ⟨bb, off, h1, c0, c1, c2, c3⟩
        have hi0 : (0 : Int) ≤ (j : Int) := by omega
        have hi1 : (j : Int) < (n : Int) := by omega
        have hwj : wrap64 ((j : Int) + 1) = (j : Int) + 1 := IntWalk.wrap64_in _ (by omega)
        have HTK := Lib.hid (pst_take (A j).many hst (by omega) hac.2.1.2)
        have HPN := Lib.hid (pst_pin (A j).many hst)
        have HUP := Lib.hid (pst_unpin (A j).many hst)
        have HPS := Lib.hid (pst_pass hst (by omega))
        have HRT := Lib.hid (pst_retire (A j).bo (A j).cap (lst (A j).L (A j).n) hst (by omega) (intsB_lst hints) (by rw [lst_len']; exact hfw))
        rw [lst_len'] at HRT
        have HST := Lib.hid hst.up
        have HJ := Lib.hid (And.intro hjk hlt)
        clear hjk hlt hst hints hn24 hac hfw hEw
        generalize A j = x at *
        obtain ⟨what, many, bo, ln, lcap, LL⟩ := x
        dsimp only at *
        by_cases hw0 : what = 0
        · subst hw0
          go_wp2_with fail
          refine HTK.out.mono ?_
          rintro e w5 ⟨⟨v, rfl⟩, hst5⟩
          have H5 := Lib.hid hst5
          clear hst5
          go_wp2
          go_roundg (n - (j + 1))
          case measure => have := HJ.out; omega
          case rel => exact ⟨j + 1, by first | (rw [hwj]; rfl) | rfl, by have := HJ.out; omega, H5.out⟩
        have e0 : (what == 0) = false := by simpa using hw0
        by_cases hw2 : what = 2
        · subst hw2
          go_wp2_with fail
          refine HRT.out.mono ?_
          rintro e w5 ⟨⟨v, rfl⟩, hst5⟩
          have H5 := Lib.hid hst5
          clear hst5
          go_wp2
          go_roundg (n - (j + 1))
          case measure => have := HJ.out; omega
          case rel => exact ⟨j + 1, by first | (rw [hwj]; rfl) | rfl, by have := HJ.out; omega, H5.out⟩
        have e2 : (what == 2) = false := by simpa using hw2
        by_cases hw3 : what = 3
        · subst hw3
          go_wp2_with fail
          refine HPS.out.mono ?_
          rintro e w5 ⟨⟨v, rfl⟩, hst5⟩
          have H5 := Lib.hid hst5
          clear hst5
          go_wp2
          go_roundg (n - (j + 1))
          case measure => have := HJ.out; omega
          case rel => exact ⟨j + 1, by first | (rw [hwj]; rfl) | rfl, by have := HJ.out; omega, H5.out⟩
        have e3 : (what == 3) = false := by simpa using hw3
        by_cases hw4 : what = 4
        · subst hw4
          go_wp2_with fail
          refine HPN.out.mono ?_
          rintro e w5 ⟨⟨v, rfl⟩, hst5⟩
          have H5 := Lib.hid hst5
          clear hst5
          go_wp2
          go_roundg (n - (j + 1))
          case measure => have := HJ.out; omega
          case rel => exact ⟨j + 1, by first | (rw [hwj]; rfl) | rfl, by have := HJ.out; omega, H5.out⟩
        have e4 : (what == 4) = false := by simpa using hw4
        by_cases hw5 : what = 5
        · subst hw5
          go_wp2_with fail
          refine HUP.out.mono ?_
          rintro e w5 ⟨⟨v, rfl⟩, hst5⟩
          have H5 := Lib.hid hst5
          clear hst5
          go_wp2
          go_roundg (n - (j + 1))
          case measure => have := HJ.out; omega
          case rel => exact ⟨j + 1, by first | (rw [hwj]; rfl) | rfl, by have := HJ.out; omega, H5.out⟩
        have e5 : (what == 5) = false := by simpa using hw5
        · go_wp2
          go_roundg (n - (j + 1))
          case measure => have := HJ.out; omega
          case rel => exact ⟨j + 1, by first | (rw [hwj]; rfl) | rfl, by have := HJ.out; omega, HST.out⟩
      · have hd : decide (j < n) = false := by simpa using hlt
        obtain rfl : n = j := by omega
        have hn24 : (n : Int) ≤ 24 := HFW.out.2
        obtain ⟨c, m, p, mb, now, l, S, G, ga, gc, h1, h2, h3, h4, h5, h6, h7⟩ := hst
        have HH := Lib.hid (And.intro h1 (And.intro h2 (And.intro h3 (And.intro h4 (And.intro (show now ≤ 24 by omega) (And.intro h6 (show ∀ k, (G k).length ≤ 480 from fun k => by have := h7 k; omega)))))))
        clear hlt hjk h1 h2 h3 h4 h5 h6 h7 hn24
        go_wp2_with fail
        refine (lm_Copy b c m p mb 3 14 now l S G ga gc wr HH.out.1 (fun k _ => by have := HH.out.2.2.2.2.2.2 k; omega)).mono ?_
        rintro e W1 ⟨b', c', m', p', mb', ga', gc', rfl, hE1, hL1, hf1⟩
        have H1 := Lib.hid (And.intro hE1 (And.intro hL1 (And.intro hf1 (HH.out.1.ext0 hE1))))
        clear hE1 hL1 hf1
        obtain ⟨Ls, hLs⟩ : ∃ Ls, lst L2 n2 = Ls := ⟨_, rfl⟩
        have hln : Ls.length = n2 := by rw [← hLs, lst_len']
        have hIL : IntsB w a2 Ls.length (fun i => Ls.getD i 0) := by rw [← hLs]; exact intsB_lst HP.out.2.2
        have hlow := HH.out.2.2.2.1.low
        have HRT := Lib.hid (lm_Retire b c m p mb 3 14 now l S G ga gc a2 cap2 Ls W1 H1.out.2.2.2 hlow (by have := HH.out.2.2.2.2.1; omega) (fun k _ => by have := HH.out.2.2.2.2.2.2 k; omega) (hIL.ext (HH.out.2.1.trans H1.out.1)) (by have := H6.out; omega))
        rw [hln] at HRT
        have HLS := Lib.hid (And.intro hln (And.intro hIL hlow))
        clear hLs hln hIL hlow
        go_wp2_with fail
        refine HRT.out.mono ?_
        rintro e W2 ⟨rfl, hno, hyes⟩
        clear HRT
        by_cases h0 : retE S 3 14 now G Ls = 0
        · obtain ⟨hE2, ao', cap', hL2, hf2⟩ := hyes h0
          have HO : Hid (retE S 3 14 now G Ls = 0 ∧ Ext [b] W1 W2 ∧ LimAt W2 b c m p mb 3 14 now l S (gon G (q3 now) (G (q3 now) ++ Ls)) (gaN ga (q3 now) ao') (gcN gc (q3 now) cap') ∧ (∀ x, Bl b c m p mb (gaN ga (q3 now) ao') x → x ≠ b') ∧ (∀ x, Bl b' c' m' p' mb' ga' x → x ∉ [b]) ∧ wr.heap.size ≤ b') := by
            have hlo := HH.out.1.lt
            have hb' := H1.out.2.1.lt b' (.inl rfl)
            have hge := H1.out.2.2.1 b' (.inl rfl)
            have hbl := hlo b (.inl rfl)
            refine ⟨h0, hE2, hL2, ?_, fun x hx => by have := H1.out.2.2.1 x hx; simp; omega, hge⟩
            rintro x (rfl | rfl | rfl | rfl | rfl | ⟨k, hk, y, hy, rfl⟩)
            · have := hlo _ (.inl rfl); omega
            · have := hlo _ (.inr (.inl rfl)); omega
            · have := hlo _ (.inr (.inr (.inl rfl))); omega
            · have := hlo _ (.inr (.inr (.inr (.inl rfl)))); omega
            · have := hlo _ (.inr (.inr (.inr (.inr (.inl rfl))))); omega
            · unfold gaN at hy
              split at hy
              · have := hf2 y hy; omega
              · have := hlo _ (.inr (.inr (.inr (.inr (.inr ⟨k, hk, y, hy, rfl⟩))))); omega
          have HC0 : Hid (LimAt W2 b' c' m' p' mb' 3 14 now l S (gon G (q3 now) (G (q3 now) ++ Ls.take 0)) ga' gc' ∧ Ext [] w W2) := by
            rw [List.take_zero, gon_nil]
            refine ⟨H1.out.2.1.ext hE2 HO.out.2.2.2.2.1, (HH.out.2.1.trans H1.out.1).trans' hE2 (fun x hx => .inr ?_)⟩
            rw [List.mem_singleton.1 hx]
            exact HH.out.2.2.1 b (.inl rfl)
          rw [h0]
          clear hno hyes hE2 hL2 hf2 h0
          go_wp2_with (go_at_call 49; refine (num15 _ _).mono ?_; rintro e w' ⟨rfl, rfl⟩)
          go_loopg [9] n2 (fun k i wx => ∃ (i0 : Nat) (ga2 : Nat → Option Addr) (gc2 : Nat → Nat), i = .int .i64 (i0 : Int) ∧ i0 + k = n2 ∧ LimAt wx b' c' m' p' mb' 3 14 now l S (gon G (q3 now) (G (q3 now) ++ Ls.take i0)) ga2 gc2 ∧ LimAt wx b c m p mb 3 14 now l S (gon G (q3 now) (G (q3 now) ++ Ls)) (gaN ga (q3 now) ao') (gcN gc (q3 now) cap') ∧ Ext [] w wx)
          case atStart => exact ⟨0, ga', gc', rfl, by omega, HC0.out.1, HO.out.2.2.1, HC0.out.2⟩
          case round =>
            clear HC0
            obtain ⟨i0, ga2, gc2, rfl, hik, hLc, hLo, hEx⟩ := hrel
            by_cases hil : i0 < n2
            · obtain ⟨g, off, rfl, e2⟩ : ∃ g off, a2 = some ⟨g, off, none⟩ ∧ wr.cell? ⟨g, off + i0, none⟩ = some (.int .i64 (Ls.getD i0 0)) := by
                have hx := HLS.out.2.1.ext hEx
                rw [HLS.out.1] at hx
                rcases hx with hz | ⟨g, off, h1, h2⟩
                · omega
                · exact ⟨g, off, h1, h2 i0 hil⟩
              have hret := one_by_one HLS.out.2.2 HO.out.1 (i := i0) (by rw [HLS.out.1]; exact hil)
              have htk := take_succ_getD (L := Ls) (i := i0) (by rw [HLS.out.1]; exact hil)
              obtain ⟨key, hkey⟩ : ∃ key, Ls.getD i0 0 = key := ⟨_, rfl⟩
              rw [hkey] at e2 hret htk
              have hI4 := ints_lit wr [key] 3
              have hE4 : Ext [] wr (wr.alloc (.cells (ints [key]).toArray 3)) := (Ext.refl _ _).alloc _
              have HRC := Lib.hid (lm_Retire b' c' m' p' mb' 3 14 now l S _ ga2 gc2 (some ⟨wr.heap.size, 0, none⟩) 1 [key] _ (hLc.ext0 hE4) HLS.out.2.2 (by have := HH.out.2.2.2.2.1; omega) (fun k _ => by
                unfold gon
                have h5 := HH.out.2.2.2.2.2.2 k
                have h6 := HH.out.2.2.2.2.2.2 (q3 now)
                split
                · rw [List.length_append, List.length_take]; have := HLS.out.1; have := H6.out; omega
                · omega) hI4 (by simp))
              have HK := Lib.hid (And.intro hret (And.intro htk (And.intro hE4 (And.intro hLo (And.intro hEx (And.intro hik hil))))))
              have hi0 : (0 : Int) ≤ (i0 : Int) := by omega
              have hi1 : (i0 : Int) < (n2 : Int) := by omega
              have hwi : wrap64 ((i0 : Int) + 1) = (i0 : Int) + 1 := IntWalk.wrap64_in _ (by have := H6.out; omega)
              clear hI4 hE4 hret htk hLo hEx hik hil hLc hkey
              go_wp2_with fail
              refine HRC.out.mono ?_
              rintro e W5 ⟨rfl, _, hy⟩
              obtain ⟨hE5, a5, c5, hL5, hf5⟩ := hy HK.out.1
              rw [HK.out.1]
              have H5 : Hid (LimAt W5 b' c' m' p' mb' 3 14 now l S (gon G (q3 now) (G (q3 now) ++ Ls.take (i0 + 1))) (gaN ga2 (q3 now) a5) (gcN gc2 (q3 now) c5) ∧ LimAt W5 b c m p mb 3 14 now l S (gon G (q3 now) (G (q3 now) ++ Ls)) (gaN ga (q3 now) ao') (gcN gc (q3 now) cap') ∧ Ext [] w W5) := by
                rw [gon_gon, ← HK.out.2.1] at hL5
                refine ⟨hL5, (HK.out.2.2.2.1.ext0 HK.out.2.2.1).ext hE5 (fun x hx => by have := HO.out.2.2.2.1 x hx; simpa using this), (HK.out.2.2.2.2.1.trans HK.out.2.2.1).trans' hE5 (fun x hx => .inr ?_)⟩
                rw [List.mem_singleton.1 hx]
                have := HO.out.2.2.2.2.2
                have := HH.out.2.1.size
                omega
              clear hE5 hL5 hf5 hy HRC
              go_wp2_with (go_at_call 49; refine (num15 _ _).mono ?_; rintro e w' ⟨rfl, rfl⟩)
              go_roundg (n2 - (i0 + 1))
              case measure => have := HK.out.2.2.2.2.2; omega
              case rel => exact ⟨i0 + 1, _, _, by first | (rw [hwi]; rfl) | rfl, by have := HK.out.2.2.2.2.2; omega, H5.out.1, H5.out.2.1, H5.out.2.2⟩
            · have hd2 : decide (i0 < n2) = false := by simpa using hil
              have HSM := Lib.hid (lm_SameT b c m p mb 3 14 now l S _ _ _ b' c' m' p' mb' ga2 gc2 wr hLo (by
                have hi : i0 = n2 := by omega
                rw [hi, List.take_of_length_le (by rw [HLS.out.1]; exact Nat.le_refl _)] at hLc
                exact hLc) HLS.out.2.2 (by have := HH.out.2.2.2.2.1; omega) (fun k _ => by
                unfold gon
                have h5 := HH.out.2.2.2.2.2.2 k
                have h6 := HH.out.2.2.2.2.2.2 (q3 now)
                split
                · rw [List.length_append]; have := HLS.out.1; have := H6.out; omega
                · omega) HH.out.2.2.2.1.vals (by omega))
              have HE := Lib.hid hEx
              clear hLc hLo hEx hik hil
              go_wp2_with (go_at_call 49; refine (num15 _ _).mono ?_; rintro e w' ⟨rfl, rfl⟩)
              refine HSM.out.mono ?_
              rintro e W6 ⟨rfl, hE6⟩
              have H7 := Lib.hid (HE.out.trans hE6)
              clear hE6
              go_wp2_with fail
              refine (HW.out _).mono ?_
              rintro e W7 ⟨rfl, hE7⟩
              have H8 := Lib.hid (H7.out.trans hE7)
              clear hE7
              go_wp2
              go_ret
              exact ⟨rfl, H8.out⟩
        · have hne : (retE S 3 14 now G Ls != 0) = true := by simpa using h0
          obtain ⟨er, her⟩ : ∃ er, retE S 3 14 now G Ls = er := ⟨_, rfl⟩
          have hE2 := hno h0
          have HSM := Lib.hid (lm_SameT b c m p mb 3 14 now l S G ga gc b' c' m' p' mb' ga' gc' W2 (H1.out.2.2.2.ext0 hE2) (H1.out.2.1.ext0 hE2) HLS.out.2.2 (by have := HH.out.2.2.2.2.1; omega) (fun k _ => by have := HH.out.2.2.2.2.2.2 k; omega) HH.out.2.2.2.1.vals (by omega))
          have HE := Lib.hid ((HH.out.2.1.trans H1.out.1).trans hE2)
          rw [her] at hne ⊢
          clear hno hyes h0 hE2 her
          go_wp2_with (go_at_call 49; refine (num15 _ _).mono ?_; rintro e w' ⟨rfl, rfl⟩)
          refine HSM.out.mono ?_
          rintro e W6 ⟨rfl, hE6⟩
          have H7 := Lib.hid (HE.out.trans hE6)
          clear hE6
          go_wp2_with fail
          refine (HW.out _).mono ?_
          rintro e W7 ⟨rfl, hE7⟩
          have H8 := Lib.hid (H7.out.trans hE7)
          clear hE7
          go_wp2
          go_ret
          exact ⟨rfl, H8.out⟩
end Go.Proofs.Ytgpoplnfhlfogaa
