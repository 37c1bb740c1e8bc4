/- The walk of the law FibreHolds. -/
import Derived.Test.YtfojmjkcjdehaaaFbW
import Derived.Test.YtfojmjkcjdehaaaPlA
namespace Go.Proofs.Ytfojmjkcjdehaaa
open Go Go.RowKit Go.Shelf
attribute [local go_sem] Oper.semAt_some

theorem fstep_right {L : List Tch} {n : Nat} (hn : n < L.length) (hc : tcheck L = 0) : tcheck [L.getD n tch0] = 0 := by
  refine tcheck_of (fun t ht => ?_) (by simp)
  have h := (tcheck_zero hc).1
  rw [List.mem_singleton.1 ht, List.getD_eq_getElem?_getD, List.getElem?_eq_getElem hn]
  exact h _ (List.getElem_mem hn)
/-- n touches are done: what a step does -/
theorem fstep_take {L dn : List Tch} {D0 : Dv} {n : Nat} (hn : n < L.length) (hc : tcheck L = 0) (h0 : (playL D0 (L.take n)).2 = 0) :
    ((fstep (L.drop n) dn (playL D0 (L.take n)).1).e = 0 ∧ (playL D0 (L.take (n + 1))).2 = 0 ∧ (fstep (L.drop n) dn (playL D0 (L.take n)).1).L = L.drop (n + 1) ∧ (fstep (L.drop n) dn (playL D0 (L.take n)).1).dn.length = dn.length + 1 ∧ (fstep (L.drop n) dn (playL D0 (L.take n)).1).D = (playL D0 (L.take (n + 1))).1) ∨
    ((fstep (L.drop n) dn (playL D0 (L.take n)).1).e ≠ 0 ∧ (fstep (L.drop n) dn (playL D0 (L.take n)).1).e = (playL D0 L).2 ∧ (fstep (L.drop n) dn (playL D0 (L.take n)).1).L = L.drop n ∧ (fstep (L.drop n) dn (playL D0 (L.take n)).1).dn.length = dn.length ∧ (fstep (L.drop n) dn (playL D0 (L.take n)).1).D = (playL D0 L).1) := by
  have ht := playL_take (D := D0) hn h0
  have hs := playL_stop (D := D0) hn h0
  have hr := fstep_right hn hc
  have hd : L.drop n = L.getD n tch0 :: L.drop (n + 1) := by
    rw [List.drop_eq_getElem_cons hn, List.getD_eq_getElem?_getD, List.getElem?_eq_getElem hn]
    rfl
  generalize L.getD n tch0 = t at *
  generalize (playL D0 (L.take n)).1 = D at *
  have hE : playE D [t] = (playOne D t).2 := by
    unfold playE
    rw [if_pos hr]
    unfold playL
    split
    · rename_i h; rw [h]; rfl
    · rfl
  have hD : playD D [t] = (playOne D t).1 := by
    unfold playD
    rw [if_pos hr]
    unfold playL
    split <;> rfl
  rw [hd]
  by_cases hp : (playOne D t).2 = 0
  · have hf : fstep (t :: L.drop (n + 1)) dn D = ⟨stepT D t, 0, L.drop (n + 1), dn ++ [stepT D t], playD D [t]⟩ := if_pos (hE.trans hp)
    rw [hf]
    exact .inl ⟨rfl, by rw [ht]; exact hp, rfl, by simp, by rw [ht]; exact hD⟩
  · have hf : fstep (t :: L.drop (n + 1)) dn D = ⟨tch0, playE D [t], t :: L.drop (n + 1), dn, playD D [t]⟩ := if_neg (fun h => hp (hE ▸ h))
    rw [hf]
    refine .inr ⟨by rw [hE]; exact hp, by rw [hs hp]; exact hE, rfl, rfl, by rw [hs hp]; exact hD⟩
theorem eqB_refl (D : Dv) : D.eqB D = true := by
  rw [eqB_iff]
  refine ⟨rfl, fun _ _ => rfl, fun _ _ => rfl, ?_⟩
  unfold eqWs
  rw [decide_eq_true rfl, Bool.true_and, List.all_eq_true]
  intro i _
  unfold eqWt
  rw [eqW_of (fun _ _ => rfl)]
  simp
/-- the loop of FibreHolds -/
structure HoF (w0 W : World) (f d lb sb o lo so n : Nat) (h : Int) (L dn : List Tch) (D0 : Dv) : Prop where
  fd : ∃ D, FD W w0.heap.size f d lb sb (L.drop n) dn D ∧ ((h = 0 ∧ (playL D0 (L.take n)).2 = 0 ∧ D = (playL D0 (L.take n)).1) ∨ (h ≠ 0 ∧ h = (playL D0 L).2 ∧ D = (playL D0 L).1))
  le : n ≤ L.length
  dl : dn.length ≤ n
  cp : DevAt W o lo so D0
  ext : Ext [] w0 W
  ne : f ≠ o ∧ f ≠ lo ∧ f ≠ so ∧ d ≠ o ∧ d ≠ lo ∧ d ≠ so ∧ lb ≠ o ∧ lb ≠ lo ∧ lb ≠ so ∧ sb ≠ o ∧ sb ≠ lo ∧ sb ≠ so
  new : w0.heap.size ≤ o ∧ w0.heap.size ≤ lo ∧ w0.heap.size ≤ so
theorem HoF.step {w0 W W' : World} {f d lb sb o lo so n : Nat} {h : Int} {L dn : List Tch} {D0 D : Dv} {r : StepR} (hh : HoF w0 W f d lb sb o lo so n h L dn D0) (hf : FD W w0.heap.size f d lb sb (L.drop n) dn D) (hs : StepP W w0.heap.size f d lb sb r W') {n' : Nat} {h' : Int} (hL : r.L = L.drop n')
    (hD : (h' = 0 ∧ (playL D0 (L.take n')).2 = 0 ∧ r.D = (playL D0 (L.take n')).1) ∨ (h' ≠ 0 ∧ h' = (playL D0 L).2 ∧ r.D = (playL D0 L).1)) (hn : n' ≤ L.length) (hdl : r.dn.length ≤ n') : HoF w0 W' f d lb sb o lo so n' h' L r.dn D0 := by
  have hne := hh.ne
  have hfb := hf.fib.1
  have hd := hf.hd
  have hl := hf.hl
  have hsb := hf.hs
  refine ⟨⟨r.D, hL ▸ hs.1, hD⟩, hn, hdl, hh.cp.ext hs.2 (by simp; omega) (by simp; omega) (by simp; omega) (fun g cur hg hm => ?_), hh.ext.trans' hs.2 (fun q hq => .inr (by simp at hq; omega)), hh.ne, hh.new⟩
  rcases List.mem_cons.1 hm with rfl | hm
  · obtain ⟨_, _, _, _, _, h1, _⟩ := hf.fib
    rw [h1] at hg
    simp at hg
  · exact hf.dev.noW g cur hg hm
set_option maxRecDepth 100000 in
set_option maxHeartbeats 8000000 in
theorem fb_holds (ao : Option Addr) (cap : Nat) (L : List Tch) (lines : Int) (w : World) (hL : TcAt w w.heap.size ao L) (hl : L.length ≤ 9223372036854775807) :
    Calls Try.prog 8 #[.slice ao L.length cap, .int .i64 lines] w fun e w' => e = .returned (.bool true) ∧ Ext [] w w' := by
  have HW := Lib.hid fb_works
  obtain ⟨c1, hc1⟩ : ∃ c1, decide ((60 : Int) < (L.length : Int)) = c1 := ⟨_, rfl⟩
  obtain ⟨c2, hc2⟩ : ∃ c2, decide (lines < 1) = c2 := ⟨_, rfl⟩
  obtain ⟨c3, hc3⟩ : ∃ c3, decide ((12 : Int) < lines) = c3 := ⟨_, rfl⟩
  obtain ⟨m, hm⟩ : ∃ m, L.length = m := ⟨_, rfl⟩
  have HL := Lib.hid (And.intro hL hm)
  rw [hm] at hc1 hl ⊢
  clear hL hm
  cases c1 with
  | true =>
    clear hl
    go_enter Try.func8, Try.ntmps8
    go_wp2_with fail
    refine (HW.out _).mono ?_
    rintro e w2 ⟨rfl, hE2⟩
    have H2 := Lib.hid hE2
    clear hE2
    go_wp2
    go_ret
    exact ⟨rfl, H2.out⟩
  | false =>
    cases c2 with
    | true =>
      clear hl
      go_enter Try.func8, Try.ntmps8
      go_wp2_with fail
      refine (HW.out _).mono ?_
      rintro e w2 ⟨rfl, hE2⟩
      have H2 := Lib.hid hE2
      clear hE2
      go_wp2
      go_ret
      exact ⟨rfl, H2.out⟩
    | false =>
      cases c3 with
      | true =>
        clear hl
        go_enter Try.func8, Try.ntmps8
        go_wp2_with fail
        refine (HW.out _).mono ?_
        rintro e w2 ⟨rfl, hE2⟩
        have H2 := Lib.hid hE2
        clear hE2
        go_wp2
        go_ret
        exact ⟨rfl, H2.out⟩
      | false =>
        have h60 : m ≤ 60 := by have := of_decide_eq_false hc1; omega
        obtain ⟨k, rfl⟩ : ∃ k : Nat, lines = k := ⟨lines.toNat, by have := of_decide_eq_false hc2; omega⟩
        have hk1 : 1 ≤ k := by have := of_decide_eq_false hc2; omega
        have hk2 : k ≤ 12 := by have := of_decide_eq_false hc3; omega
        have HND := Lib.hid (pm_New k w hk1 (by omega))
        have HOK : Hid (DvOk (dvNew k)) := dvNew_ok hk1 (by omega)
        have H60 := Lib.hid h60
        clear hk1 hk2 hl h60
        go_enter Try.func8, Try.ntmps8
        go_wp2_with fail
        refine HND.out.mono ?_
        rintro e w1 ⟨rfl, hE1, lb, sb, hD1, hl1, hs1⟩
        obtain ⟨d, hd⟩ : ∃ d, w.heap.size + 2 = d := ⟨_, rfl⟩
        rw [hd] at hD1 ⊢
        have H1 := Lib.hid (And.intro hE1 (And.intro hD1 (And.intro (show w.heap.size ≤ d by omega) (And.intro hl1 hs1))))
        clear hE1 hD1 hl1 hs1 hd HND
        go_wp2_with fail
        refine (pm_Copy d lb sb (dvNew k) w1 H1.out.2.1 HOK.out).mono ?_
        rintro e w2 ⟨o, lo, so, rfl, hE2, hO2, ho1, ho2, ho3⟩
        have H2 : Hid (Ext [] w w2 ∧ DevAt w2 d lb sb (dvNew k) ∧ DevAt w2 o lo so (dvNew k) ∧ (w.heap.size ≤ o ∧ w.heap.size ≤ lo ∧ w.heap.size ≤ so) ∧ (d ≠ o ∧ d ≠ lo ∧ d ≠ so ∧ lb ≠ o ∧ lb ≠ lo ∧ lb ≠ so ∧ sb ≠ o ∧ sb ≠ lo ∧ sb ≠ so)) := by
          have h1 := H1.out.2.1.lt
          have h2 := H1.out.1.size
          exact ⟨H1.out.1.trans hE2, H1.out.2.1.ext0 hE2, hO2, by omega, by omega⟩
        clear hE2 hO2 ho1 ho2 ho3
        obtain ⟨D0, hD0⟩ : ∃ D0, dvNew k = D0 := ⟨_, rfl⟩
        rw [hD0] at H2 HOK
        clear hD0
        by_cases hc : tcheck L = 0
        · have HNW := Lib.hid (fb_New w.heap.size ao cap L w2 (HL.out.1.ext0 H2.out.1) H2.out.1.size hc)
          rw [HL.out.2] at HNW
          have HC := Lib.hid hc
          clear hc
          go_wp2_with fail
          refine HNW.out.mono ?_
          rintro e w3 ⟨f, rfl, hF3, hE3, hf3⟩
          have H3 : Hid (HoF w w3 f d lb sb o lo so 0 0 L [] D0) := by
            have h1 := H2.out.2.1.lt
            have h2 := H2.out.2.2.1.lt
            have h3 := H2.out.2.2.2.2
            exact ⟨⟨D0, ⟨hF3, H2.out.2.1.ext0 hE3, HOK.out, H1.out.2.2.1, H1.out.2.2.2.1, H1.out.2.2.2.2⟩, .inl ⟨rfl, rfl, rfl⟩⟩, Nat.zero_le _, Nat.le_refl _, H2.out.2.2.1.ext0 hE3, H2.out.1.trans hE3, by omega, H2.out.2.2.2.1⟩
          clear hF3 hE3 hf3 HNW H2 H1
          go_wp2_with fail
          refine (fb_num _ _).mono ?_
          rintro e w' ⟨rfl, rfl⟩
          go_wp2
          go_loopg [10, 11] (m + 1) (fun cnt nv hv wr => ∃ (n : Nat) (h : Int) (dn : List Tch), nv = .int .i64 n ∧ hv = .int .i64 h ∧ (h = 0 ∧ n + cnt = m + 1 ∨ h ≠ 0 ∧ n + cnt = m) ∧ HoF w wr f d lb sb o lo so n h L dn D0)
          case atStart => exact ⟨0, 0, [], rfl, rfl, .inl ⟨rfl, by omega⟩, H3.out⟩
          case round =>
            obtain ⟨n, h, dn, rfl, rfl, hcnt, hst⟩ := hrel
            have HST := Lib.hid hst
            clear hst
            have hnle : n ≤ m := by have := HST.out.le; rw [HL.out.2] at this; exact this
            by_cases hnm : n < m
            · have hi1 : decide (n < m) = true := by simpa using hnm
              have hi2 : (n : Int) < (m : Int) := by omega
              by_cases h0 : h = 0
              · subst h0
                obtain ⟨D, hfd, hD⟩ := HST.out.fd
                have hDe : D = (playL D0 (L.take n)).1 ∧ (playL D0 (L.take n)).2 = 0 := by
                  rcases hD with ⟨_, e2, e3⟩ | ⟨e1, _⟩
                  · exact ⟨e3, e2⟩
                  · exact absurd rfl e1
                have hft := fstep_take (dn := dn) (D0 := D0) (n := n) (by rw [HL.out.2]; exact hnm) HC.out hDe.2
                rw [← hDe.1] at hft
                have hdn := HST.out.dl
                have HS := Lib.hid (fb_StepF w.heap.size f d lb sb (L.drop n) dn D wr hfd (by have := H60.out; omega))
                obtain ⟨r, hr⟩ : ∃ r, fstep (L.drop n) dn D = r := ⟨_, rfl⟩
                rw [hr] at HS hft
                have hw1 : wrap64 ((n : Int) + 1) = (n : Int) + 1 := IntWalk.wrap64_in _ (by have := H60.out; omega)
                have HFD := Lib.hid (And.intro hfd (And.intro hdn (And.intro hnm (show n + gk = m + 1 by omega))))
                obtain ⟨rt, re, rL, rdn, rD⟩ := r
                dsimp only at HS hft
                clear hfd hD hDe hdn hr hnm hnle hcnt
                rcases hft with ⟨e1, e2, e3, e4, e5⟩ | ⟨e1, e2, e3, e4, e5⟩
                · subst e1
                  have HE := Lib.hid (And.intro e2 (And.intro e3 (And.intro e4 e5)))
                  clear e2 e3 e4 e5
                  go_wp2_with (first
                    | (go_at_call 36; refine (fb_num _ _).mono ?_; rintro e w' ⟨rfl, rfl⟩)
                    | fail)
                  refine HS.out.mono ?_
                  rintro e w5 ⟨rfl, hP⟩
                  have H5 := Lib.hid (HST.out.step HFD.out.1 hP (n' := n + 1) (h' := 0) HE.out.2.1 (.inl ⟨rfl, HE.out.1, HE.out.2.2.2⟩) (by rw [HL.out.2]; exact HFD.out.2.2.1) (by show rdn.length ≤ n + 1; have := HE.out.2.2.1; have := HFD.out.2.1; omega))
                  clear hP
                  go_wp2_with (first
                    | (go_at_call 36; refine (fb_num _ _).mono ?_; rintro e w' ⟨rfl, rfl⟩)
                    | fail)
                  go_roundg (m + 1 - (n + 1))
                  case measure => have := HFD.out.2.2; omega
                  case rel => exact ⟨n + 1, 0, _, by first | (rw [hw1]; rfl) | rfl, rfl, .inl ⟨rfl, by have := HFD.out.2.2; omega⟩, H5.out⟩
                · have g1 : (re == 0) = false := by simpa using e1
                  have HE := Lib.hid (And.intro e1 (And.intro e2 (And.intro e3 (And.intro e4 e5))))
                  clear e1 e2 e3 e4 e5
                  go_wp2_with (first
                    | (go_at_call 36; refine (fb_num _ _).mono ?_; rintro e w' ⟨rfl, rfl⟩)
                    | fail)
                  refine HS.out.mono ?_
                  rintro e w5 ⟨rfl, hP⟩
                  have H5 := Lib.hid (HST.out.step HFD.out.1 hP (n' := n) (h' := re) HE.out.2.2.1 (.inr ⟨HE.out.1, HE.out.2.1, HE.out.2.2.2.2⟩) HST.out.le (by show rdn.length ≤ n; have := HE.out.2.2.2.1; have := HFD.out.2.1; omega))
                  clear hP
                  go_wp2_with (first
                    | (go_at_call 36; refine (fb_num _ _).mono ?_; rintro e w' ⟨rfl, rfl⟩)
                    | fail)
                  go_roundg (m - n)
                  case measure => have := HFD.out.2.2; omega
                  case rel => exact ⟨n, re, _, rfl, rfl, .inr ⟨HE.out.1, by have := HFD.out.2.2; omega⟩, H5.out⟩
              · have g0 : (h == 0) = false := by simpa using h0
                have HH0 := Lib.hid h0
                clear h0 hnm hnle
                obtain ⟨D, hfd, hD⟩ := HST.out.fd
                have hend : h = (playL D0 L).2 ∧ D = (playL D0 L).1 := by
                  rcases hD with ⟨e1, e2, e3⟩ | ⟨_, e2, e3⟩
                  · exact absurd e1 HH0.out
                  · exact ⟨e2, e3⟩
                have HEN := Lib.hid (And.intro hfd hend)
                have hlen : ((L.drop n).length : Int) + (n : Int) = (m : Int) := by
                  have := HST.out.le
                  rw [List.length_drop, HL.out.2]
                  rw [HL.out.2] at this
                  omega
                have hwl : wrap64 (((L.drop n).length : Int) + (n : Int)) = (m : Int) := by rw [hlen]; exact IntWalk.wrap64_in _ (by have := H60.out; omega)
                have hnn : ((m : Int) != (m : Int)) = false := by simp
                have hpe : playE D0 L = h := by
                  unfold playE
                  rw [if_pos HC.out, hend.1]
                have hpd : playD D0 L = D := by
                  unfold playD
                  rw [if_pos HC.out, hend.2]
                have hhh : (h == h) = true := by simp
                have HLF := Lib.hid (fb_Left f w.heap.size (L.drop n) dn wr hfd.fib)
                have HPL := Lib.hid (rd_Play o lo so w.heap.size D0 ao cap L wr HST.out.cp HOK.out (HL.out.1.ext0 HST.out.ext) (by rw [HL.out.2]; have := H60.out; omega) HST.out.new.1 HST.out.new.2.1 HST.out.new.2.2)
                rw [hpe, hpd, HL.out.2] at HPL
                generalize (L.drop n).length = ll at *
                clear hfd hD hend hlen hpe hpd hcnt
                go_wp2_with (first
                  | (go_at_call 36; refine (fb_num _ _).mono ?_; rintro e w' ⟨rfl, rfl⟩)
                  | (go_at_call 39; refine HLF.out.mono ?_; rintro e w' ⟨rfl, rfl⟩)
                  | (go_at_call 37
                     refine HPL.out.mono ?_
                     rintro e w6 ⟨rfl, hD6, hE6⟩
                     have hne := HST.out.ne
                     have h6 : DevAt w6 d lb sb D := HEN.out.1.dev.ext hE6 (by simp; omega) (by simp; omega) (by simp; omega) (fun g cur hg hm => HST.out.cp.noW g cur hg (by simpa using hm))
                     have HS6 := Lib.hid (pm_Same d lb sb o lo so D D w6 h6 hD6 HEN.out.1.ok rfl)
                     rw [eqB_refl] at HS6
                     have H6 := Lib.hid (HST.out.ext.trans' hE6 (fun q hq => .inr (by have := HST.out.new; simp at hq; omega)))
                     clear hne hD6 hE6 h6)
                  | (go_at_call 26; refine HS6.out.mono ?_; rintro e w7 ⟨rfl, hE7⟩; have H7 := Lib.hid (H6.out.trans hE7); clear hE7)
                  | (go_at_call 34; refine (HW.out _).mono ?_; rintro e w8 ⟨rfl, hE8⟩; have H8 := Lib.hid (H7.out.trans hE8); clear hE8))
                go_ret
                exact ⟨rfl, H8.out⟩
            · have hi1 : decide (n < m) = false := by simpa using hnm
              have hi2 : ¬ ((n : Int) < (m : Int)) := by omega
              have HNM := Lib.hid (show n = m by omega)
              clear hnm hnle
              obtain ⟨D, hfd, hD⟩ := HST.out.fd
              have hend : h = (playL D0 L).2 ∧ D = (playL D0 L).1 := by
                rcases hD with ⟨e1, e2, e3⟩ | ⟨_, e2, e3⟩
                · rw [HNM.out, ← HL.out.2, List.take_length] at e2 e3
                  exact ⟨by rw [e1, e2], e3⟩
                · exact ⟨e2, e3⟩
              have HEN := Lib.hid (And.intro hfd hend)
              have hlen : ((L.drop n).length : Int) + (n : Int) = (m : Int) := by
                have := HST.out.le
                rw [List.length_drop, HL.out.2]
                rw [HL.out.2] at this
                omega
              have hwl : wrap64 (((L.drop n).length : Int) + (n : Int)) = (m : Int) := by rw [hlen]; exact IntWalk.wrap64_in _ (by have := H60.out; omega)
              have hnn : ((m : Int) != (m : Int)) = false := by simp
              have hpe : playE D0 L = h := by
                unfold playE
                rw [if_pos HC.out, hend.1]
              have hpd : playD D0 L = D := by
                unfold playD
                rw [if_pos HC.out, hend.2]
              have hhh : (h == h) = true := by simp
              have HLF := Lib.hid (fb_Left f w.heap.size (L.drop n) dn wr hfd.fib)
              have HPL := Lib.hid (rd_Play o lo so w.heap.size D0 ao cap L wr HST.out.cp HOK.out (HL.out.1.ext0 HST.out.ext) (by rw [HL.out.2]; have := H60.out; omega) HST.out.new.1 HST.out.new.2.1 HST.out.new.2.2)
              rw [hpe, hpd, HL.out.2] at HPL
              generalize (L.drop n).length = ll at *
              clear hfd hD hend hlen hpe hpd hcnt
              go_wp2_with (first
                | (go_at_call 36; refine (fb_num _ _).mono ?_; rintro e w' ⟨rfl, rfl⟩)
                | (go_at_call 39; refine HLF.out.mono ?_; rintro e w' ⟨rfl, rfl⟩)
                | (go_at_call 37
                   refine HPL.out.mono ?_
                   rintro e w6 ⟨rfl, hD6, hE6⟩
                   have hne := HST.out.ne
                   have h6 : DevAt w6 d lb sb D := HEN.out.1.dev.ext hE6 (by simp; omega) (by simp; omega) (by simp; omega) (fun g cur hg hm => HST.out.cp.noW g cur hg (by simpa using hm))
                   have HS6 := Lib.hid (pm_Same d lb sb o lo so D D w6 h6 hD6 HEN.out.1.ok rfl)
                   rw [eqB_refl] at HS6
                   have H6 := Lib.hid (HST.out.ext.trans' hE6 (fun q hq => .inr (by have := HST.out.new; simp at hq; omega)))
                   clear hne hD6 hE6 h6)
                | (go_at_call 26; refine HS6.out.mono ?_; rintro e w7 ⟨rfl, hE7⟩; have H7 := Lib.hid (H6.out.trans hE7); clear hE7)
                | (go_at_call 34; refine (HW.out _).mono ?_; rintro e w8 ⟨rfl, hE8⟩; have H8 := Lib.hid (H7.out.trans hE8); clear hE8))
              go_ret
              exact ⟨rfl, H8.out⟩
        · have HNB := Lib.hid (fb_New_bad w.heap.size ao cap L w2 (HL.out.1.ext0 H2.out.1) (by rw [HL.out.2]; have := H60.out; omega) hc)
          have HPL := Lib.hid (fun W (hE : Ext [] w2 W) => rd_Play o lo so w.heap.size D0 ao cap L W (H2.out.2.2.1.ext0 hE) HOK.out (HL.out.1.ext0 (H2.out.1.trans hE)) (by rw [HL.out.2]; have := H60.out; omega) H2.out.2.2.2.1.1 H2.out.2.2.2.1.2.1 H2.out.2.2.2.1.2.2)
          have hpe : playE D0 L = tcheck L := if_neg hc
          rw [HL.out.2] at HNB HPL
          rw [hpe] at HPL
          generalize tcheck L = tc at *
          have hne : (tc != 0) = true := by simpa using hc
          have heq : (tc == tc) = true := by simp
          clear hc hpe
          go_wp2_with fail
          refine HNB.out.mono ?_
          rintro e w3 ⟨rfl, hE3⟩
          go_wp2_with fail
          refine (fb_num _ _).mono ?_
          rintro e w' ⟨rfl, rfl⟩
          go_wp2_with fail
          refine (HPL.out _ hE3).mono ?_
          rintro e w4 ⟨rfl, _, hE4⟩
          have H4 := Lib.hid ((H2.out.1.trans hE3).trans' hE4 (fun q hq => .inr (by have := H2.out.2.2.2.1; simp at hq; omega)))
          clear hE3 hE4
          go_wp2_with (first
            | (go_at_call 36; refine (fb_num _ _).mono ?_; rintro e w' ⟨rfl, rfl⟩)
            | (go_at_call 34; refine (HW.out _).mono ?_; rintro e w5 ⟨rfl, hE5⟩; have H5 := Lib.hid hE5; clear hE5))
          go_ret
          exact ⟨rfl, H4.out.trans H5.out⟩
end Go.Proofs.Ytfojmjkcjdehaaa
