/- The walk of the law FibreParts (printed by wip/mkFp.py). -/
import Derived.Test.YtfojmjkcjdehaaaFbP
namespace Go.Proofs.Ytfojmjkcjdehaaa
open Go Go.RowKit Go.Shelf
attribute [local go_sem] Oper.semAt_some

/-- two fibres on two devices -/
structure PaF (w0 W : World) (f d lb sb g c lc sc : Nat) (s1 s2 : Fs) : Prop where
  one : FD W w0.heap.size f d lb sb s1.1 s1.2.1 s1.2.2
  two : FD W w0.heap.size g c lc sc s2.1 s2.2.1 s2.2.2
  ext : Ext [] w0 W
  ne : ∀ q, q ∈ [f, d, lb, sb] → q ∉ [g, c, lc, sc]
theorem FD.extF {W W' : World} {N f d lb sb g c lc sc : Nat} {L dn L' dn' : List Tch} {D D' : Dv} (h : FD W N g c lc sc L dn D) (h1 : FD W N f d lb sb L' dn' D') (hE : Ext [f, d, lb, sb] W W')
    (hne : ∀ q, q ∈ [f, d, lb, sb] → q ∉ [g, c, lc, sc]) : FD W' N g c lc sc L dn D := by
  refine ⟨h.fib.ext hE (fun hq => hne g hq (by simp)) h1.noTc, h.dev.ext hE (fun hq => hne c hq (by simp)) (fun hq => hne lc hq (by simp)) (fun hq => hne sc hq (by simp)) (fun b cur hg hm => ?_), h.ok, h.hd, h.hl, h.hs⟩
  rcases List.mem_cons.1 hm with rfl | hm
  · obtain ⟨_, _, _, _, _, h1, _⟩ := h1.fib
    rw [h1] at hg
    simp at hg
  · exact h1.dev.noW b cur hg hm
theorem PaF.swap {w0 W : World} {f d lb sb g c lc sc : Nat} {s1 s2 : Fs} (h : PaF w0 W f d lb sb g c lc sc s1 s2) : PaF w0 W g c lc sc f d lb sb s2 s1 := ⟨h.two, h.one, h.ext, fun q hq hm => h.ne q hm hq⟩
theorem FD.new {W : World} {N f d lb sb : Nat} {L dn : List Tch} {D : Dv} (h : FD W N f d lb sb L dn D) {q : Nat} (hq : q ∈ [f, d, lb, sb]) : N ≤ q := by
  have := h.fib.1
  have := h.hd
  have := h.hl
  have := h.hs
  simp at hq
  omega
theorem PaF.step {w0 W W' : World} {f d lb sb g c lc sc : Nat} {s1 s2 : Fs} (h : PaF w0 W f d lb sb g c lc sc s1 s2) (hs : StepP W w0.heap.size f d lb sb (fstep s1.1 s1.2.1 s1.2.2) W') : PaF w0 W' f d lb sb g c lc sc (stS s1) s2 :=
  ⟨hs.1, h.two.extF h.one hs.2 h.ne, h.ext.trans' hs.2 (fun _ hq => .inr (h.one.new hq)), h.ne⟩
theorem PaF.then {w0 W W' : World} {f d lb sb g c lc sc : Nat} {s1 s2 : Fs} {M : List Tch} (h : PaF w0 W f d lb sb g c lc sc s1 s2) (hs : ThenP w0.heap.size f s1.1 s1.2.1 M W') (h0 : thenE s1.1 s1.2.1 M = 0) (hE : Ext [f] W W') : PaF w0 W' f d lb sb g c lc sc (moreS s1 M) s2 := by
  have hsub : Ext [f, d, lb, sb] W W' := hE.sub (fun q hq => by simp at hq; simp [hq])
  unfold ThenP at hs
  rw [if_pos h0] at hs
  have hfd := h.one.fd
  refine ⟨⟨hs, h.one.dev.ext hE (by simp at hfd ⊢; omega) (by simp at hfd ⊢; omega) (by simp at hfd ⊢; omega) (fun b cur hg hm => ?_), h.one.ok, h.one.hd, h.one.hl, h.one.hs⟩, h.two.extF h.one hsub h.ne, h.ext.trans' hE (fun _ hq => .inr (h.one.new (by simp at hq; simp [hq]))), h.ne⟩
  simp at hm
  subst hm
  obtain ⟨_, _, _, _, _, h1, _⟩ := h.one.fib
  rw [h1] at hg
  simp at hg
/-- New tells something, and changes nothing -/
theorem fb_New_any (N : Nat) (ao : Option Addr) (cap : Nat) (L : List Tch) (w : World) (hL : TcAt w N ao L) (hN : N ≤ w.heap.size) (hl : L.length ≤ 9223372036854775807) :
    Calls Try.prog 35 #[.slice ao L.length cap] w fun e w' => ∃ p i, e = .returned (.tuple #[.pointer p, .int .i64 i]) ∧ Ext [] w w' := by
  by_cases h : tcheck L = 0
  · exact (fb_New N ao cap L w hL hN h).mono fun e w' ⟨f, he, _, hE, _⟩ => ⟨_, _, he, hE⟩
  · exact (fb_New_bad N ao cap L w hL hl h).mono fun e w' ⟨he, hE⟩ => ⟨_, _, he, hE⟩
set_option maxRecDepth 100000 in
set_option maxHeartbeats 8000000 in
theorem fb_parts (ao bo : Option Addr) (cap bcap : Nat) (L M : List Tch) (ahead : Int) (w : World) (hL : TcAt w w.heap.size ao L) (hM : TcAt w w.heap.size bo M) :
    Calls Try.prog 9 #[.slice ao L.length cap, .slice bo M.length bcap, .int .i64 ahead] w fun e w' => e = .returned (.bool true) ∧ Ext [] w w' := by
  have HW := Lib.hid fb_works
  obtain ⟨c1, hc1⟩ : ∃ c1, decide ((30 : Int) < (L.length : Int)) = c1 := ⟨_, rfl⟩
  obtain ⟨c2, hc2⟩ : ∃ c2, decide ((30 : Int) < (M.length : Int)) = c2 := ⟨_, rfl⟩
  obtain ⟨c3, hc3⟩ : ∃ c3, decide (ahead < 0) = c3 := ⟨_, rfl⟩
  obtain ⟨c4, hc4⟩ : ∃ c4, decide ((30 : Int) < ahead) = c4 := ⟨_, rfl⟩
  obtain ⟨m, hm⟩ : ∃ m, L.length = m := ⟨_, rfl⟩
  obtain ⟨m', hm'⟩ : ∃ m', M.length = m' := ⟨_, rfl⟩
  have HL := Lib.hid (And.intro hL hm)
  have HM := Lib.hid (And.intro hM hm')
  rw [hm] at hc1 ⊢
  rw [hm'] at hc2 ⊢
  clear hL hm hM hm'
  cases c1 with
  | true =>
    go_enter Try.func9, Try.ntmps9
    go_wp2_with fail
    refine (HW.out _).mono ?_
    rintro e w2 ⟨rfl, hE2⟩
    have H2 := Lib.hid hE2
    clear hE2
    go_wp2
    go_ret
    exact ⟨rfl, H2.out⟩
  | false =>
    cases c2 with
    | true =>
      go_enter Try.func9, Try.ntmps9
      go_wp2_with fail
      refine (HW.out _).mono ?_
      rintro e w2 ⟨rfl, hE2⟩
      have H2 := Lib.hid hE2
      clear hE2
      go_wp2
      go_ret
      exact ⟨rfl, H2.out⟩
    | false =>
      cases c3 with
      | true =>
        go_enter Try.func9, Try.ntmps9
        go_wp2_with fail
        refine (HW.out _).mono ?_
        rintro e w2 ⟨rfl, hE2⟩
        have H2 := Lib.hid hE2
        clear hE2
        go_wp2
        go_ret
        exact ⟨rfl, H2.out⟩
      | false =>
        cases c4 with
        | true =>
          go_enter Try.func9, Try.ntmps9
          go_wp2_with fail
          refine (HW.out _).mono ?_
          rintro e w2 ⟨rfl, hE2⟩
          have H2 := Lib.hid hE2
          clear hE2
          go_wp2
          go_ret
          exact ⟨rfl, H2.out⟩
        | false =>
          have h30 : m ≤ 30 ∧ m' ≤ 30 := by have := of_decide_eq_false hc1; have := of_decide_eq_false hc2; omega
          obtain ⟨k, rfl⟩ : ∃ k : Nat, ahead = k := ⟨ahead.toNat, by have := of_decide_eq_false hc3; omega⟩
          have hk : k ≤ 30 := by have := of_decide_eq_false hc4; omega
          have HK := Lib.hid (And.intro h30 hk)
          have HND := Lib.hid (pm_New 4 w (by omega) (by omega))
          rw [show ((4 : Nat) : Int) = 4 from rfl] at HND
          have HOK : Hid (DvOk (dvNew 4)) := dvNew_ok (by omega) (by omega)
          clear h30 hk
          go_enter Try.func9, Try.ntmps9
          go_wp2_with fail
          refine HND.out.mono ?_
          rintro e w1 ⟨rfl, hE1, lb, sb, hD1, hl1, hs1⟩
          obtain ⟨d, hd⟩ : ∃ d, w.heap.size + 2 = d := ⟨_, rfl⟩
          rw [hd] at hD1 ⊢
          have H1 := Lib.hid (And.intro hE1 (And.intro hD1 (And.intro (show w.heap.size ≤ d by omega) (And.intro hl1 hs1))))
          clear hE1 hD1 hl1 hs1 hd HND
          go_wp2_with fail
          refine (pm_Copy d lb sb (dvNew 4) w1 H1.out.2.1 HOK.out).mono ?_
          rintro e w2 ⟨c, lc, sc, rfl, hE2, hO2, ho1, ho2, ho3⟩
          have H2 : Hid (Ext [] w w2 ∧ DevAt w2 d lb sb (dvNew 4) ∧ DevAt w2 c lc sc (dvNew 4) ∧ (w.heap.size ≤ c ∧ w.heap.size ≤ lc ∧ w.heap.size ≤ sc) ∧ ((d < w1.heap.size ∧ lb < w1.heap.size ∧ sb < w1.heap.size) ∧ w1.heap.size ≤ c ∧ w1.heap.size ≤ lc ∧ w1.heap.size ≤ sc)) := by
            have h1 := H1.out.2.1.lt
            have h2 := H1.out.1.size
            exact ⟨H1.out.1.trans hE2, H1.out.2.1.ext0 hE2, hO2, by omega, h1, ho1, ho2, ho3⟩
          clear hE2 hO2 ho1 ho2 ho3
          obtain ⟨D0, hD0⟩ : ∃ D0, dvNew 4 = D0 := ⟨_, rfl⟩
          rw [hD0] at H2 HOK
          clear hD0
          obtain ⟨i0, hi, hz0, hz1, hz2⟩ := info_parts infoTch
          have hI1 := Lib.hid hi
          have hI2 := Lib.hid hz0
          have hI3 := Lib.hid hz1
          have hI4 := Lib.hid hz2
          clear hi hz0 hz1 hz2
          by_cases hc : tcheck L = 0
          · have HNW := Lib.hid (fb_New w.heap.size ao cap L w2 (HL.out.1.ext0 H2.out.1) H2.out.1.size hc)
            rw [HL.out.2] at HNW
            clear hc
            go_wp2_with fail
            refine HNW.out.mono ?_
            rintro e w3 ⟨f, rfl, hF3, hE3, hf3⟩
            have H3 := Lib.hid (And.intro hF3 (And.intro hE3 (And.intro hf3 (H2.out.1.trans hE3))))
            clear hF3 hE3 hf3 HNW
            go_wp2_with (at_builtin; refine wpList_append_any rfl _ _ _ rfl w3.heap.size 82 i0 _ 3 24 Try.underlying75 hI1.out hI2.out hI3.out hI4.out rfl (by omega) (.slice (some ⟨w3.heap.size, 0, none⟩) 0 0) 0 [] rfl ?c4 ao m cap (rowC (tR L) m) rfl ?c0 ?c1 ?c2 ?c3 ?_)
            case c4 => exact owns_empty (World.alloc_heap_new _ _) (Nat.le_refl _)
            case c0 =>
              have hs := (HL.out.1.src).ext (k := []) (H3.out.2.2.2.alloc (.cells #[] 82)) (fun _ _ => by simp)
              rw [HL.out.2] at hs
              exact hs
            case c1 => have := HK.out; unfold maxLen; omega
            case c2 => have := HK.out; omega
            case c3 => simp
            intro v1 w4 ho1 hE4 _
            have hX4 : Ext [] w3 w4 := ((Ext.refl [] w3).alloc _).trans' hE4 (fun j hj => .inr (by simp [Value.ownBlock] at hj; omega))
            have hT1 : TcOwn w4 w3.heap.size v1 L := by
              unfold TcOwn
              rw [HL.out.2]
              simpa using ho1
            have hO1 := hT1
            obtain ⟨ao1, cap1, rfl, _, _, _⟩ := hT1.at (N := w.heap.size)
            unfold TcOwn at hO1
            rw [HL.out.2] at hO1 ⊢
            have H4 := Lib.hid (And.intro hO1 hX4)
            clear hE4 hX4 ho1 hO1 hT1
            go_wp2_with (at_builtin; refine wpList_append_any rfl _ _ _ rfl w3.heap.size 82 i0 _ 3 24 Try.underlying75 hI1.out hI2.out hI3.out hI4.out rfl (by omega) (.slice ao1 m cap1) m (rowC (tR L) m) rfl H4.out.1 bo m' bcap (rowC (tR M) m') rfl ?c0 ?c1 ?c2 H4.out.2.size ?_)
            case c0 =>
              have hs := (HM.out.1.src).ext (k := []) (H3.out.2.2.2.trans H4.out.2) (fun _ _ => by simp)
              rw [HM.out.2] at hs
              exact hs
            case c1 => have := HK.out; unfold maxLen; omega
            case c2 => have := HK.out; omega
            intro v2 w5 ho2 hE5 _
            have hX5 : Ext [] w3 w5 := H4.out.2.trans' hE5 (fun j hj => .inr (H4.out.1.lt j (by simpa using hj)).1)
            have hT : TcOwn w5 w3.heap.size v2 (L ++ M) := by
              unfold TcOwn
              rw [tR_append, List.length_append, HL.out.2, HM.out.2]
              simpa using ho2
            obtain ⟨lo', lcap, rfl, hTc, _, _⟩ := hT.at (N := w.heap.size)
            have H5 := Lib.hid (And.intro hX5 hTc)
            clear hE5 hX5 ho2 hT hTc H4
            obtain ⟨LM, hLM⟩ : ∃ LM, L ++ M = LM := ⟨_, rfl⟩
            obtain ⟨q, hq⟩ : ∃ q, LM.length = q := ⟨_, rfl⟩
            rw [hLM] at H5 ⊢
            rw [hq]
            have HLM := Lib.hid (And.intro hLM hq)
            clear hLM hq
            by_cases hcc : tcheck LM = 0
            · have HNA := Lib.hid (fb_New w.heap.size lo' lcap LM w5 H5.out.2 (Nat.le_trans H3.out.2.2.2.size H5.out.1.size) hcc)
              rw [HLM.out.2] at HNA
              have HCC := Lib.hid hcc
              clear hcc
              go_wp2_with fail
              refine HNA.out.mono ?_
              rintro e w6 ⟨g, rfl, hG6, hE6, hg6⟩
              have H6 : Hid (PaF w w6 f d lb sb g c lc sc (L, [], D0) (LM, [], D0)) := by
                have hd3 := H2.out.2.1.ext0 H3.out.2.1
                have hc3 := H2.out.2.2.1.ext0 H3.out.2.1
                have l1 := H2.out.2.1.lt
                have l2 := H2.out.2.2.1.lt
                have l3 := H3.out.1.lt
                have l4 := H5.out.1.size
                have l5 := H3.out.2.2.1
                have l6 := H2.out.2.2.2.2
                have l7 := H3.out.2.1.size
                have hX := H5.out.1.trans hE6
                refine ⟨⟨H3.out.1.ext0 hX, hd3.ext0 hX, HOK.out, H1.out.2.2.1, H1.out.2.2.2.1, H1.out.2.2.2.2⟩, ⟨hG6, hc3.ext0 hX, HOK.out, H2.out.2.2.2.1.1, H2.out.2.2.2.1.2.1, H2.out.2.2.2.1.2.2⟩, H3.out.2.2.2.trans hX, ?_⟩
                clear hX hd3 hc3
                intro q hq hm
                simp only [List.mem_cons, List.not_mem_nil, or_false] at hq hm
                rcases hq with rfl | rfl | rfl | rfl <;> rcases hm with rfl | rfl | rfl | rfl <;> omega
              clear hG6 hE6 hg6 HNA H5 H3 H2 H1 HOK
              go_wp2_with (first
                | (go_at_call 36; refine (fb_num _ _).mono ?_; rintro e w' ⟨rfl, rfl⟩)
                | fail)
              go_loopg [14] (k + 1) (fun cnt iv wr => ∃ (i : Nat), iv = .int .i64 i ∧ i ≤ k ∧ i + cnt = k + 1 ∧ PaF w wr f d lb sb g c lc sc (itS i (L, [], D0)) (LM, [], D0))
              case atStart => exact ⟨0, rfl, by omega, by omega, H6.out⟩
              case round =>
                obtain ⟨i, rfl, hik, hcnt, hst⟩ := hrel
                have HST := Lib.hid hst
                have hlen := itS_len i (L, [], D0)
                obtain ⟨s, hs⟩ : ∃ s, itS i (L, [], D0) = s := ⟨_, rfl⟩
                have hsn : stS s = itS (i + 1) (L, [], D0) := by rw [← hs]; rfl
                rw [hs] at HST hlen
                simp only [List.length_nil, Nat.add_zero] at hlen
                rw [HL.out.2] at hlen
                by_cases hik2 : i < k
                · have hi1 : decide (i < k) = true := by simpa using hik2
                  have hi2 : (i : Int) < (k : Int) := by omega
                  have HS := Lib.hid (fb_StepF w.heap.size f d lb sb s.1 s.2.1 s.2.2 wr HST.out.one (by have := HK.out; omega))
                  have hw1 : wrap64 ((i : Int) + 1) = (i : Int) + 1 := IntWalk.wrap64_in _ (by have := HK.out; omega)
                  have HSN := Lib.hid hsn
                  have HC := Lib.hid (And.intro hik2 hcnt)
                  clear hst hlen hs hsn hik2 hcnt hik
                  obtain ⟨r, hr⟩ : ∃ r, fstep s.1 s.2.1 s.2.2 = r := ⟨_, rfl⟩
                  have HR := Lib.hid hr
                  rw [hr] at HS
                  clear hr
                  go_wp2_with fail
                  refine HS.out.mono ?_
                  rintro e w7 ⟨rfl, hP⟩
                  rw [← HR.out] at hP
                  have H7 := HST.out.step hP
                  rw [HSN.out] at H7
                  have H7 := Lib.hid H7
                  clear hP
                  go_wp2
                  go_roundg (k + 1 - (i + 1))
                  case measure => have := HC.out; omega
                  case rel => exact ⟨i + 1, by first | (rw [hw1]; rfl) | rfl, by have := HC.out; omega, by have := HC.out; omega, H7.out⟩
                · have hi1 : decide (i < k) = false := by simpa using hik2
                  have hi2 : ¬ ((i : Int) < (k : Int)) := by omega
                  have hik3 : i = k := by omega
                  have HTO := Lib.hid (then_ok (r := s.1) (dn := s.2.1) (HLM.out.1 ▸ HCC.out) (by rw [HL.out.2]; exact hlen))
                  have HTH := Lib.hid (fb_Then f w.heap.size s.1 s.2.1 bo bcap M wr HST.out.one.fib (HM.out.1.ext0 HST.out.ext) (by have := HK.out; omega) (by have := HK.out; omega) (by rw [HM.out.2]; have := HK.out; omega))
                  rw [HTO.out, HM.out.2] at HTH
                  have HS := Lib.hid (And.intro hs (And.intro hik3 hlen))
                  clear hst hlen hs hsn hik2 hcnt hik hik3
                  go_wp2_with (first
                    | (go_at_call 36; refine (fb_num _ _).mono ?_; rintro e w' ⟨rfl, rfl⟩)
                    | fail)
                  refine HTH.out.mono ?_
                  rintro e w7 ⟨rfl, hP, hE⟩
                  have H7 := Lib.hid (HST.out.then hP HTO.out hE)
                  clear hP hE
                  go_wp2_with (first
                    | (go_at_call 36; refine (fb_num _ _).mono ?_; rintro e w' ⟨rfl, rfl⟩)
                    | fail)
                  go_loopg [15] (m + m' + 1) (fun cnt jv wr => ∃ (j : Nat), jv = .int .i64 j ∧ j ≤ m + m' ∧ j + cnt = m + m' + 1 ∧ PaF w wr f d lb sb g c lc sc (itS j (moreS s M)) (itS j (LM, [], D0)))
                  case atStart => exact ⟨0, rfl, by omega, by omega, H7.out⟩
                  case round =>
                    obtain ⟨j, rfl, hjk, hjc, hst2⟩ := hrel
                    have HST2 := Lib.hid hst2
                    have hl1 := itS_len j (moreS s M)
                    have hl2 := itS_len j (LM, [], D0)
                    have hl3 : (moreS s M).1.length + (moreS s M).2.1.length = m + m' := by
                      show (s.1 ++ M).length + s.2.1.length = _
                      rw [List.length_append, HM.out.2]
                      have := HS.out.2.2
                      omega
                    have hl4 : LM.length = m + m' := by rw [← HLM.out.1, List.length_append, HL.out.2, HM.out.2]
                    simp only [List.length_nil, Nat.add_zero] at hl2
                    rw [hl3] at hl1
                    rw [hl4] at hl2
                    obtain ⟨x, hx⟩ : ∃ x, itS j (moreS s M) = x := ⟨_, rfl⟩
                    obtain ⟨y, hy⟩ : ∃ y, itS j (LM, [], D0) = y := ⟨_, rfl⟩
                    rw [hx] at HST2 hl1
                    rw [hy] at HST2 hl2
                    have hxn : stS x = itS (j + 1) (moreS s M) := by rw [← hx]; rfl
                    have hyn : stS y = itS (j + 1) (LM, [], D0) := by rw [← hy]; rfl
                    have HW2 : Hid (wrap64 ((m : Int) + (m' : Int)) = (m : Int) + (m' : Int)) := IntWalk.wrap64_in _ (by have := HK.out; omega)
                    by_cases hj2 : j < m + m'
                    · have HZ : Hid ((∀ c, j + c = m + m' + 1 → m + m' + 1 - (j + 1) < c) ∧ j + 1 ≤ m + m' ∧ j + 1 + (m + m' + 1 - (j + 1)) = m + m' + 1) := by
                        clear HW2 HST2 hst2 hx hy hxn hyn hl1 hl2 hl3 hl4
                        exact ⟨fun c hc => by omega, by omega, by omega⟩
                      have hi3 : (j : Int) < (m : Int) + (m' : Int) := by omega
                      have HW1 : Hid (wrap64 ((j : Int) + 1) = (j : Int) + 1) := IntWalk.wrap64_in _ (by have := HK.out; omega)
                      have hd1 : x.2.1.length ≤ 999999 := by clear HW1 HW2; have := HK.out; omega
                      have hd2 : y.2.1.length ≤ 999999 := by clear HW1 HW2; have := HK.out; omega
                      have HSA := Lib.hid (fb_StepF w.heap.size f d lb sb x.1 x.2.1 x.2.2 wr HST2.out.one hd1)
                      have HSB := Lib.hid (fun W (h : PaF w W g c lc sc f d lb sb y (stS x)) => fb_StepF w.heap.size g c lc sc y.1 y.2.1 y.2.2 W h.one hd2)
                      have HXY := Lib.hid (And.intro hxn (And.intro hyn (And.intro hj2 hjc)))
                      have hw1 := HW1.out
                      have hw2 := HW2.out
                      clear hst2 hl1 hl2 hl3 hl4 hx hy hxn hyn hjk hjc hj2 hd1 hd2
                      obtain ⟨r, hr⟩ : ∃ r, fstep x.1 x.2.1 x.2.2 = r := ⟨_, rfl⟩
                      obtain ⟨r', hr'⟩ : ∃ r', fstep y.1 y.2.1 y.2.2 = r' := ⟨_, rfl⟩
                      have HR := Lib.hid (And.intro hr hr')
                      rw [hr] at HSA
                      rw [hr'] at HSB
                      clear hr hr'
                      go_wp2_with fail
                      refine HSA.out.mono ?_
                      rintro e w8 ⟨rfl, hP⟩
                      rw [← HR.out.1] at hP
                      have H8 := Lib.hid (HST2.out.step hP).swap
                      clear hP
                      go_wp2_with fail
                      refine (HSB.out _ H8.out).mono ?_
                      rintro e w9 ⟨rfl, hP⟩
                      rw [← HR.out.2] at hP
                      have H9 := (H8.out.step hP).swap
                      rw [HXY.out.1, HXY.out.2.1] at H9
                      have H9 := Lib.hid H9
                      clear hP
                      go_wp2
                      go_roundg (m + m' + 1 - (j + 1))
                      case measure => exact HZ.out.1 _ HXY.out.2.2.2
                      case rel => exact ⟨j + 1, by first | (rw [hw1]; rfl) | rfl, HZ.out.2.1, HZ.out.2.2, H9.out⟩
                    · have hi3 : ¬ ((j : Int) < (m : Int) + (m' : Int)) := by omega
                      have hj3 : j = m + m' := by omega
                      have hxy : x = y := by
                        rw [← hx, ← hy, ← HS.out.1, HS.out.2.1, hj3, ← HLM.out.1, ← HL.out.2, ← HM.out.2]
                        exact parts L M D0 k
                      subst hxy
                      have HFS := Lib.hid (fb_Same f g w.heap.size w.heap.size x.1 x.2.1 x.1 x.2.1 wr HST2.out.one.fib HST2.out.two.fib (by have := HK.out; omega) (by have := HK.out; omega) (by have := HK.out; omega) (by have := HK.out; omega))
                      rw [decide_eq_true rfl, decide_eq_true rfl] at HFS
                      have HPS := Lib.hid (fun W (hE : Ext [] wr W) => pm_Same d lb sb c lc sc x.2.2 x.2.2 W (HST2.out.one.dev.ext0 hE) (HST2.out.two.dev.ext0 hE) HST2.out.one.ok rfl)
                      rw [eqB_refl] at HPS
                      have hw2 := HW2.out
                      clear hst2 hl1 hl2 hl3 hl4 hx hy hxn hyn hjk hjc hj2 hj3
                      go_wp2_with (first
                        | (go_at_call 36; refine (fb_num _ _).mono ?_; rintro e w' ⟨rfl, rfl⟩)
                        | (go_at_call 41; refine HFS.out.mono ?_; rintro e w8 ⟨rfl, hE8⟩; have H8 := Lib.hid hE8; clear hE8)
                        | (go_at_call 26; refine (HPS.out _ H8.out).mono ?_; rintro e w9 ⟨rfl, hE9⟩; have H9 := Lib.hid ((HST2.out.ext.trans H8.out).trans hE9); clear hE9)
                        | (go_at_call 34; refine (HW.out _).mono ?_; rintro e wz ⟨rfl, hE10⟩; have H10 := Lib.hid (H9.out.trans hE10); clear hE10))
                      go_ret
                      exact ⟨rfl, H10.out⟩
            · have hq60 : LM.length ≤ 9223372036854775807 := by rw [← HLM.out.1, List.length_append, HL.out.2, HM.out.2]; have := HK.out; omega
              have HNA := Lib.hid (fb_New_bad w.heap.size lo' lcap LM w5 H5.out.2 hq60 hcc)
              rw [HLM.out.2] at HNA
              generalize tcheck LM = tc at *
              have hne : (tc != 0) = true := by simpa using hcc
              clear hcc hq60
              go_wp2_with fail
              refine HNA.out.mono ?_
              rintro e w6 ⟨rfl, hE6⟩
              have H6 := Lib.hid ((H3.out.2.2.2.trans H5.out.1).trans hE6)
              clear hE6 HNA
              go_wp2_with (first
                | (go_at_call 36; refine (fb_num _ _).mono ?_; rintro e w' ⟨rfl, rfl⟩)
                | (go_at_call 34; refine (HW.out _).mono ?_; rintro e w7 ⟨rfl, hE7⟩; have H7 := Lib.hid (H6.out.trans hE7); clear hE7))
              go_ret
              exact ⟨rfl, H7.out⟩
          · have HNW := Lib.hid (fb_New_bad w.heap.size ao cap L w2 (HL.out.1.ext0 H2.out.1) (by rw [HL.out.2]; have := HK.out; omega) hc)
            rw [HL.out.2] at HNW
            generalize tcheck L = tc at *
            have hne : (tc != 0) = true := by simpa using hc
            clear hc
            go_wp2_with fail
            refine HNW.out.mono ?_
            rintro e w3 ⟨rfl, hE3⟩
            have H3 := Lib.hid (And.intro hE3 (H2.out.1.trans hE3))
            clear hE3 HNW
            go_wp2_with (at_builtin; refine wpList_append_any rfl _ _ _ rfl w3.heap.size 82 i0 _ 3 24 Try.underlying75 hI1.out hI2.out hI3.out hI4.out rfl (by omega) (.slice (some ⟨w3.heap.size, 0, none⟩) 0 0) 0 [] rfl ?c4 ao m cap (rowC (tR L) m) rfl ?c0 ?c1 ?c2 ?c3 ?_)
            case c4 => exact owns_empty (World.alloc_heap_new _ _) (Nat.le_refl _)
            case c0 =>
              have hs := (HL.out.1.src).ext (k := []) (H3.out.2.alloc (.cells #[] 82)) (fun _ _ => by simp)
              rw [HL.out.2] at hs
              exact hs
            case c1 => have := HK.out; unfold maxLen; omega
            case c2 => have := HK.out; omega
            case c3 => simp
            intro v1 w4 ho1 hE4 _
            have hX4 : Ext [] w3 w4 := ((Ext.refl [] w3).alloc _).trans' hE4 (fun j hj => .inr (by simp [Value.ownBlock] at hj; omega))
            have hT1 : TcOwn w4 w3.heap.size v1 L := by
              unfold TcOwn
              rw [HL.out.2]
              simpa using ho1
            have hO1 := hT1
            obtain ⟨ao1, cap1, rfl, _, _, _⟩ := hT1.at (N := w.heap.size)
            unfold TcOwn at hO1
            rw [HL.out.2] at hO1 ⊢
            have H4 := Lib.hid (And.intro hO1 hX4)
            clear hE4 hX4 ho1 hO1 hT1
            go_wp2_with (at_builtin; refine wpList_append_any rfl _ _ _ rfl w3.heap.size 82 i0 _ 3 24 Try.underlying75 hI1.out hI2.out hI3.out hI4.out rfl (by omega) (.slice ao1 m cap1) m (rowC (tR L) m) rfl H4.out.1 bo m' bcap (rowC (tR M) m') rfl ?c0 ?c1 ?c2 H4.out.2.size ?_)
            case c0 =>
              have hs := (HM.out.1.src).ext (k := []) (H3.out.2.trans H4.out.2) (fun _ _ => by simp)
              rw [HM.out.2] at hs
              exact hs
            case c1 => have := HK.out; unfold maxLen; omega
            case c2 => have := HK.out; omega
            intro v2 w5 ho2 hE5 _
            have hX5 : Ext [] w3 w5 := H4.out.2.trans' hE5 (fun j hj => .inr (H4.out.1.lt j (by simpa using hj)).1)
            have hT : TcOwn w5 w3.heap.size v2 (L ++ M) := by
              unfold TcOwn
              rw [tR_append, List.length_append, HL.out.2, HM.out.2]
              simpa using ho2
            obtain ⟨lo', lcap, rfl, hTc, _, _⟩ := hT.at (N := w.heap.size)
            have H5 := Lib.hid (And.intro hX5 hTc)
            clear hE5 hX5 ho2 hT hTc H4
            obtain ⟨LM, hLM⟩ : ∃ LM, L ++ M = LM := ⟨_, rfl⟩
            obtain ⟨q, hq⟩ : ∃ q, LM.length = q := ⟨_, rfl⟩
            rw [hLM] at H5 ⊢
            rw [hq]
            have HLM := Lib.hid (And.intro hLM hq)
            clear hLM hq
            have hq60 : LM.length ≤ 9223372036854775807 := by rw [← HLM.out.1, List.length_append, HL.out.2, HM.out.2]; have := HK.out; omega
            have HNA := Lib.hid (fb_New_any w.heap.size lo' lcap LM w5 H5.out.2 (Nat.le_trans H3.out.2.size H5.out.1.size) hq60)
            rw [HLM.out.2] at HNA
            clear hq60
            go_wp2_with fail
            refine HNA.out.mono ?_
            rintro e w6 ⟨gp, ge, rfl, hE6⟩
            have H6 := Lib.hid ((H3.out.2.trans H5.out.1).trans hE6)
            clear hE6 HNA
            go_wp2_with (first
              | (go_at_call 36; refine (fb_num _ _).mono ?_; rintro e w' ⟨rfl, rfl⟩)
              | (go_at_call 34; refine (HW.out _).mono ?_; rintro e w7 ⟨rfl, hE7⟩; have H7 := Lib.hid (H6.out.trans hE7); clear hE7))
            go_ret
            exact ⟨rfl, H7.out⟩
end Go.Proofs.Ytfojmjkcjdehaaa
