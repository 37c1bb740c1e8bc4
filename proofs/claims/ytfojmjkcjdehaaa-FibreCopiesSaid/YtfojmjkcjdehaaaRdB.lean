/- redo.Play: the walk. -/
import Derived.Test.YtfojmjkcjdehaaaRdA
namespace Go.Proofs.Ytfojmjkcjdehaaa
open Go Go.RowKit Go.Shelf
attribute [local go_sem] Oper.semAt_some

theorem take_getD {L : List Tch} {j : Nat} (h : j < L.length) : L.take (j + 1) = L.take j ++ [L.getD j tch0] := by
  rw [List.take_add_one, List.getElem?_eq_getElem h, List.getD_eq_getElem?_getD, List.getElem?_eq_getElem h]
  rfl
theorem playL_take {D : Dv} {L : List Tch} {j : Nat} (h : j < L.length) (h0 : (playL D (L.take j)).2 = 0) : playL D (L.take (j + 1)) = playOne (playL D (L.take j)).1 (L.getD j tch0) := by
  rw [take_getD h, playL_snoc _ _ _ h0]
theorem playL_stop {D : Dv} {L : List Tch} {j : Nat} (h : j < L.length) (h0 : (playL D (L.take j)).2 = 0) (h1 : (playOne (playL D (L.take j)).1 (L.getD j tch0)).2 ≠ 0) : playL D L = playOne (playL D (L.take j)).1 (L.getD j tch0) := by
  have hl : L = L.take j ++ L.getD j tch0 :: L.drop (j + 1) := by
    conv => lhs; rw [← List.take_append_drop j L]
    rw [List.drop_eq_getElem_cons h, List.getD_eq_getElem?_getD, List.getElem?_eq_getElem h]
    rfl
  conv => lhs; rw [hl]
  rw [playL_append _ _ _ h0]
  show (if (playOne _ _).2 = 0 then _ else ((playOne _ _).1, (playOne _ _).2)) = _
  rw [if_neg h1]
/-- what a kind's function does -/
theorem rd_kind {k : Int} (h : k = 1 ∨ k = 2 ∨ k = 3 ∨ k = 4) : ∃ fk, look actsE k = some (.func (.func fk) #[] #[]) ∧ (∀ args w', (callFunc fk args).run Try.prog w' = .ok (.enter fk args) w') ∧
    ∀ (d lb sb : Nat) (D : Dv) (a x : Int) (w : World), DevAt w d lb sb D → DvOk D → Calls Try.prog fk #[.pointer (some ⟨d, 0, none⟩), .agg #[.int .i64 k, .int .i64 a, .int .u64 x]] w fun e w' => e = .returned (.int .i64 (playOne D ⟨k, a, x⟩).2) ∧ DevPost [d, lb, sb] w d lb sb (playOne D ⟨k, a, x⟩).1 w' := by
  rcases h with rfl | rfl | rfl | rfl
  · exact ⟨116, rfl, fun args w' => enters_of Try.func116 (by kernel_rfl) rfl args w', rd_act1⟩
  · exact ⟨117, rfl, fun args w' => enters_of Try.func117 (by kernel_rfl) rfl args w', rd_act2⟩
  · exact ⟨118, rfl, fun args w' => enters_of Try.func118 (by kernel_rfl) rfl args w', rd_act3⟩
  · exact ⟨119, rfl, fun args w' => enters_of Try.func119 (by kernel_rfl) rfl args w', rd_act4⟩

set_option maxRecDepth 100000 in
set_option maxHeartbeats 2000000 in
theorem rd_Play (d lb sb N : Nat) (D : Dv) (ao : Option Addr) (cap : Nat) (L : List Tch) (w : World) (hD : DevAt w d lb sb D) (hn : DvOk D) (hL : TcAt w N ao L) (hl : L.length ≤ 9223372036854775807) (hd : N ≤ d) (hlb : N ≤ lb) (hsb : N ≤ sb) :
    Calls Try.prog 37 #[.pointer (some ⟨d, 0, none⟩), .slice ao L.length cap] w fun e w' => e = .returned (.int .i64 (playE D L)) ∧ DevPost [d, lb, sb] w d lb sb (playD D L) w' := by
  have HS := Lib.hid (pm_Same_dn none d lb sb D w hD (.inl rfl))
  have HC := Lib.hid (tc_Check N ao cap L w hL hl)
  have HB := Lib.hid (And.intro hD (And.intro hn (And.intro hL (And.intro hd (And.intro hlb hsb)))))
  unfold playE playD
  have HTZ := Lib.hid (fun h : tcheck L = 0 => tcheck_zero h)
  generalize tcheck L = tc at *
  clear hD hL hd hlb hsb hn
  by_cases hc : tc = 0
  · subst hc
    have HT := Lib.hid (HTZ.out rfl)
    rw [if_pos rfl, if_pos rfl]
    clear HTZ
    obtain ⟨n, hnl⟩ : ∃ n, L.length = n := ⟨_, rfl⟩
    have HNL := Lib.hid hnl
    rw [hnl] at HC hl ⊢
    clear hnl
    go_enter Try.func37, Try.ntmps37
    go_wp2_with fail
    refine HS.out.mono ?_
    rintro e w' ⟨rfl, rfl⟩
    go_wp2_with fail
    refine HC.out.mono ?_
    rintro e w1 ⟨rfl, hE1⟩
    go_wp2_with fail
    refine (rd_acts w1).mono ?_
    rintro e w2 ⟨mb, rfl, hI, hE2, hmb⟩
    have hE12 := hE1.trans hE2
    have hmne : mb ∉ [d, lb, sb] := by
      have := HB.out.1.lt
      have := hE1.size
      simp
      omega
    have H2 := Lib.hid (And.intro hE12 (And.intro hI hmne))
    clear hE1 hE2 hmb hI hmne hE12
    go_wp2
    go_loopg [20] n (fun cnt i wr => ∃ j : Nat, i = .int .i64 j ∧ j + cnt = n ∧ (playL D (L.take j)).2 = 0 ∧ DevAt wr d lb sb (playL D (L.take j)).1 ∧ Ext [d, lb, sb] w wr ∧ IMap wr mb actsE)
    case atStart => exact ⟨0, rfl, by omega, rfl, HB.out.1.ext0 H2.out.1, H2.out.1.wide, H2.out.2.1⟩
    case round =>
      obtain ⟨j, rfl, hj, h0, hD, hE, hI⟩ := hrel
      have HR := Lib.hid (And.intro h0 (And.intro hD (And.intro hE hI)))
      by_cases hlt : j < n
      · have hL2 := HB.out.2.2.1.ext hE (HB.out.1.noTc HB.out.2.2.2.1 HB.out.2.2.2.2.1 HB.out.2.2.2.2.2 (fun q hq => by simpa using hq))
        obtain ⟨b, off, rfl, x0, x1, x2⟩ := hL2.cells (i := j) (by rw [HNL.out]; exact hlt)
        obtain ⟨t, ht⟩ : ∃ t, L.getD j tch0 = t := ⟨_, rfl⟩
        have htr : t.right = true := by
          rw [← ht, List.getD_eq_getElem?_getD, List.getElem?_eq_getElem (by rw [HNL.out]; exact hlt)]
          exact HT.out.1 _ (List.getElem_mem _)
        have hts := playL_take (D := D) (L := L) (j := j) (by rw [HNL.out]; exact hlt) h0
        have hst := playL_stop (D := D) (L := L) (j := j) (by rw [HNL.out]; exact hlt) h0
        rw [ht] at x0 x1 x2 hts hst
        obtain ⟨k, a, x⟩ := t
        obtain ⟨fk, hlook, hcf, hact⟩ := rd_kind (Tch.right_kind htr)
        dsimp only at x0 x1 x2 hlook hact
        obtain ⟨W0, hW0⟩ : ∃ W0, wr.alloc (.cells #[.int .i64 k, .int .i64 a, .int .u64 x] 82) = W0 := ⟨_, rfl⟩
        obtain ⟨nb, hnb⟩ : ∃ nb, wr.heap.size = nb := ⟨_, rfl⟩
        have hE0 : Ext [] wr W0 := by rw [← hW0]; exact (Ext.refl _ _).alloc _
        have hb0 : W0.heap[nb]? = some (.cells #[.int .i64 k, .int .i64 a, .int .u64 x] 82 (0, 0)) := by rw [← hW0, ← hnb]; exact World.alloc_heap_new _ _
        have hlk := run_look_at (P := Try.prog) 145 80 147 .nilFunc Try.underlying145 Try.underlying80 (by kernel_rfl) (hI.ext hE0 (by simp)) k
        rw [hlook] at hlk
        simp only [Option.getD_some] at hlk
        have k0 := cell_of (j := 0) (v := .int .i64 k) hb0 rfl
        have k1 := cell_of (j := 1) (v := .int .i64 a) hb0 rfl
        have k2 := cell_of (j := 2) (v := .int .u64 x) hb0 rfl
        have HA := Lib.hid (hact d lb sb (playL D (L.take j)).1 a x W0 (hD.ext0 hE0) (playL_ok HB.out.2.1 _))
        have hi0 : (0 : Int) ≤ (j : Int) := by omega
        have hi1 : (j : Int) < (n : Int) := by omega
        have hwj : wrap64 ((j : Int) + 1) = (j : Int) + 1 := IntWalk.wrap64_in _ (by omega)
        have HJ := Lib.hid (And.intro hj (And.intro hlt (And.intro hts (And.intro hst hE0))))
        clear hj hlt hts hst hE0 h0 hD hE hI hL2 htr hlook hact ht hb0 hl
        go_upto_region 10 with fail
        try rw [hW0]
        try rw [hnb]
        clear hW0 hnb x0 x1 x2
        cases he : decide ((playOne (playL D (L.take j)).1 ⟨k, a, x⟩).2 = 0) with
        | true =>
          have he2 : (playOne (playL D (L.take j)).1 ⟨k, a, x⟩).2 = 0 := of_decide_eq_true he
          rw [he2] at HA
          have HE := Lib.hid he2
          clear he he2
          go_wp2_with fail
          refine HA.out.mono ?_
          rintro e w5 ⟨rfl, hD5, hE5⟩
          have HI5 := Lib.hid (HR.out.2.2.2.ext (HJ.out.2.2.2.2.wide.trans hE5) H2.out.2.2)
          have H5 := Lib.hid (And.intro hD5 ((HR.out.2.2.1.trans HJ.out.2.2.2.2.wide).trans hE5))
          clear hD5 hE5 k0 k1 k2 hlk hcf
          go_wp2
          go_roundg (n - (j + 1))
          case measure => have := HJ.out.1; have := HJ.out.2.1; omega
          case rel => exact ⟨j + 1, by first | (rw [hwj]; rfl) | rfl, by have := HJ.out.1; have := HJ.out.2.1; omega, by rw [HJ.out.2.2.1]; exact HE.out, by rw [HJ.out.2.2.1]; exact H5.out.1, H5.out.2, HI5.out⟩
        | false =>
          have he2 : (playOne (playL D (L.take j)).1 ⟨k, a, x⟩).2 ≠ 0 := of_decide_eq_false he
          have HE := Lib.hid (HJ.out.2.2.2.1 he2)
          have hne : ((playOne (playL D (L.take j)).1 ⟨k, a, x⟩).2 != 0) = true := by simpa using he2
          clear he he2
          go_wp2_with fail
          refine HA.out.mono ?_
          rintro e w5 ⟨rfl, hD5, hE5⟩
          have H5 := Lib.hid (And.intro hD5 ((HR.out.2.2.1.trans HJ.out.2.2.2.2.wide).trans hE5))
          clear hD5 hE5 k0 k1 k2 hlk hcf
          go_wp2
          go_ret
          rw [HE.out]
          exact ⟨rfl, H5.out.1, H5.out.2⟩
      · obtain rfl : j = n := by omega
        have hfull : L.take j = L := by rw [← HNL.out]; exact List.take_length
        rw [hfull] at h0 hD
        have HF := Lib.hid (And.intro hD (And.intro hE h0))
        clear hj hlt h0 hD hE hI hfull hl
        go_wp2
        go_ret
        rw [HF.out.2.2]
        exact ⟨rfl, HF.out.1, HF.out.2.1⟩
  · rw [if_neg hc, if_neg hc]
    have hne : (tc != 0) = true := by simpa using hc
    generalize L.length = n at *
    clear hc HTZ
    go_enter Try.func37, Try.ntmps37
    go_wp2_with fail
    refine HS.out.mono ?_
    rintro e w' ⟨rfl, rfl⟩
    go_wp2_with fail
    refine HC.out.mono ?_
    rintro e w1 ⟨rfl, hE1⟩
    go_wp2
    go_ret
    exact ⟨rfl, HB.out.1.ext0 hE1, hE1.wide⟩
end Go.Proofs.Ytfojmjkcjdehaaa
