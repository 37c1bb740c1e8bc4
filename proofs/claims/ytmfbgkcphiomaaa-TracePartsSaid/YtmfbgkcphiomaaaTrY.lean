/- TraceParts: the walk. -/
import Derived.Test.YtmfbgkcphiomaaaTrX
import Derived.StillTailTactics
namespace Go.Proofs.Ytmfbgkcphiomaaa
open Go Go.RowKit Go.Shelf
attribute [local go_sem] Oper.semAt_some

set_option maxRecDepth 100000 in
set_option maxHeartbeats 8000000 in
theorem tr_parts (ao bo : Option Addr) (ca cb : Nat) (L M : List Tch) (w : World) (hp : TcAt w w.heap.size ao L) (hq : TcAt w w.heap.size bo M) (_ : L.length ≤ maxLen) (_ : M.length ≤ maxLen) :
    Calls Try.prog 7 #[.slice ao L.length ca, .slice bo M.length cb] w fun e w' => e = .returned (.bool true) ∧ Ext [] w w' := by
  by_cases hbig : 30 < L.length
  · have hd : ((30 : Int) < ((L.length : Nat) : Int)) := by omega
    generalize L.length = n at *
    generalize M.length = m at *
    clear hp hq hbig
    go_enter Try.func7, Try.ntmps7
    go_wp2_with fail
    refine (law05_works _).mono ?_
    rintro e w1 ⟨rfl, hE⟩
    go_wp2
    go_ret
    exact ⟨rfl, hE⟩
  by_cases hbig2 : 30 < M.length
  · have hd : ¬ ((30 : Int) < ((L.length : Nat) : Int)) := by omega
    have hd2 : ((30 : Int) < ((M.length : Nat) : Int)) := by omega
    generalize L.length = n at *
    generalize M.length = m at *
    clear hp hq hbig hbig2
    go_enter Try.func7, Try.ntmps7
    go_wp2_with fail
    refine (law05_works _).mono ?_
    rintro e w1 ⟨rfl, hE⟩
    go_wp2
    go_ret
    exact ⟨rfl, hE⟩
  have hd : ¬ ((30 : Int) < ((L.length : Nat) : Int)) := by omega
  have hd2 : ¬ ((30 : Int) < ((M.length : Nat) : Int)) := by omega
  have hn : L.length ≤ 30 := by omega
  have hm : M.length ≤ 30 := by omega
  have HA := Lib.hid (tc_Check w.heap.size ao ca L w hp (by omega))
  have HB := Lib.hid (fun W (hE : Ext [] w W) => tc_Check w.heap.size bo cb M W (hq.ext0 hE) (by omega))
  have HP := Lib.hid (And.intro hp (And.intro hq (And.intro hn hm)))
  obtain ⟨n, hnl⟩ : ∃ n, L.length = n := ⟨_, rfl⟩
  obtain ⟨m, hml⟩ : ∃ m, M.length = m := ⟨_, rfl⟩
  rw [hnl] at hd HA ⊢
  rw [hml] at hd2 HB ⊢
  have HN := Lib.hid (And.intro hnl hml)
  clear hp hq hbig hbig2 hn hm hnl hml
  by_cases hz1 : tcheck L = 0
  · by_cases hz2 : tcheck M = 0
    · have rL := (tcheck_zero hz1).1
      have rM := (tcheck_zero hz2).1
      have hn30 := HP.out.2.2.1
      have hm30 := HP.out.2.2.2
      have rLM := right_append rL rM
      have tLM : tcheck (L ++ M) = 0 := tcheck_of rLM (by rw [List.length_append]; omega)
      have sL : putsL (stL L) = putsL L := by unfold stL; rw [if_pos hz1]
      have sM : putsL (stL M) = putsL M := by unfold stL; rw [if_pos hz2]
      have sLM : putsL (stL (L ++ M)) = putsL (L ++ M) := by unfold stL; rw [if_pos tLM]
      have pL : (putsL L).length ≤ 30 := Nat.le_trans (putsL_le rL) hn30
      have pM : (putsL M).length ≤ 30 := Nat.le_trans (putsL_le rM) hm30
      have pLM : (putsL (L ++ M)).length ≤ 60 := Nat.le_trans (putsL_le rLM) (by rw [List.length_append]; omega)
      have HP1 := Lib.hid (fun W (hE : Ext [] w W) => la_puts w.heap.size ao ca L W (HP.out.1.ext0 hE) (by omega) (by rw [sL]; omega))
      have HP2 := Lib.hid (fun W (hE : Ext [] w W) => la_puts w.heap.size bo cb M W (HP.out.2.1.ext0 hE) (by omega) (by rw [sM]; omega))
      have HP3 := Lib.hid (fun N W v b ao' cap' (h : TcAt W N ao' (L ++ M)) (_ : v = Value.slice ao' b cap') => la_puts N ao' cap' (L ++ M) W h (by rw [List.length_append]; omega) (by rw [sLM]; omega))
      rw [sL, HN.out.1] at HP1
      rw [sM, HN.out.2] at HP2
      rw [sLM] at HP3
      have srcL := HP.out.1.src
      have srcM := HP.out.2.1.src
      rw [HN.out.1] at srcL
      rw [HN.out.2] at srcM
      have HW := Lib.hid (fun es (h : AE es (putsL L ++ putsL M)) (hnd : (keysOf es).Nodup) => (h.words rL rM).lays hnd rLM)
      obtain ⟨P, hP⟩ : ∃ P, putsL L = P := ⟨_, rfl⟩
      obtain ⟨Q, hQ⟩ : ∃ Q, putsL M = Q := ⟨_, rfl⟩
      obtain ⟨R, hR⟩ : ∃ R, putsL (L ++ M) = R := ⟨_, rfl⟩
      rw [hP] at pL HP1 HW
      rw [hQ] at pM HP2 HW
      rw [hR] at pLM HP3 HW
      rw [hz1] at HA
      rw [hz2] at HB
      obtain ⟨kp, hkp⟩ : ∃ k, P.length = k := ⟨_, rfl⟩
      obtain ⟨kq, hkq⟩ : ∃ k, Q.length = k := ⟨_, rfl⟩
      obtain ⟨kr, hkr⟩ : ∃ k, R.length = k := ⟨_, rfl⟩
      have HSZ : Hid (kp ≤ 30 ∧ kq ≤ 30 ∧ kr ≤ 60 ∧ n ≤ 30 ∧ m ≤ 30 ∧ P.length = kp ∧ Q.length = kq ∧ R.length = kr) := ⟨by omega, by omega, by omega, by rw [← HN.out.1]; exact hn30, by rw [← HN.out.2]; exact hm30, hkp, hkq, hkr⟩
      have HSR := Lib.hid (And.intro srcL srcM)
      obtain ⟨i0, hi, hz0, hz1', hz2'⟩ := info_parts infoTch
      have HI := Lib.hid (And.intro hi (And.intro hz0 (And.intro hz1' hz2')))
      clear hz1 hz2 rL rM hn30 hm30 rLM tLM sL sM sLM pL pM pLM srcL srcM hP hQ hR hkp hkq hkr hi hz0 hz1' hz2'
      have hmm := @run_makeMap Try.prog
      go_enter Try.func7, Try.ntmps7
      go_wp2_with fail
      refine HA.out.mono ?_
      rintro e w1 ⟨rfl, hE1⟩
      have H1 := Lib.hid hE1
      clear hE1
      go_wp2_with (go_at_call 13; refine (la_numR _ _).mono ?_; rintro e w' ⟨rfl, rfl⟩)
      refine (HB.out _ H1.out).mono ?_
      rintro e w2 ⟨rfl, hE2⟩
      have H2 := Lib.hid (H1.out.trans hE2)
      clear hE2
      obtain ⟨W3, hW3⟩ : ∃ W, w2.alloc (.map #[] 0) = W := ⟨_, rfl⟩
      obtain ⟨mb, hmb⟩ : ∃ b, w2.heap.size = b := ⟨_, rfl⟩
      have H3 : Hid (Ext [] w W3 ∧ IMap W3 mb [] ∧ W3.heap.size = mb + 1 ∧ w2.heap.size = mb) := by
        rw [← hW3]
        exact ⟨H2.out.alloc _, by rw [← hmb]; exact IMap.made w2, by simp [hmb], hmb⟩
      have HWE := Lib.hid (And.intro hW3 hmb)
      clear hW3 hmb
      go_wp2_with (go_at_call 13; refine (la_numR _ _).mono ?_; rintro e w' ⟨rfl, rfl⟩)
      try rw [HWE.out.1]
      try rw [HWE.out.2]
      clear HWE hd hd2
      refine (HP1.out _ H3.out.1).mono ?_
      rintro e w8 ⟨v8, rfl, hO8, hE8⟩
      obtain ⟨xo, xc, rfl, hR8, hx8⟩ := hO8.at
      rw [HSZ.out.2.2.2.2.2.1] at hR8 ⊢
      have H8 := Lib.hid (And.intro (H3.out.1.trans hE8) (And.intro (H3.out.2.1.ext hE8 (by simp)) (And.intro hR8 (And.intro (show ∀ p : Addr, xo = some p → p.block ≠ mb from fun p hp => by have := (hx8 p hp).1; have := H3.out.2.2.1; omega) hE8.size))))
      clear hE8 hO8 hR8 hx8
      go_wp2_with fail
      refine (HP2.out _ H8.out.1).mono ?_
      rintro e w9 ⟨v9, rfl, hO9, hE9⟩
      obtain ⟨yo, yc, rfl, hR9, hy9⟩ := hO9.at
      rw [HSZ.out.2.2.2.2.2.2.1] at hR9 ⊢
      have H9 := Lib.hid (And.intro (H8.out.1.trans hE9) (And.intro (H8.out.2.1.ext hE9 (by simp)) (And.intro (H8.out.2.2.1.ext (pR_ok _ _) hE9 (fun _ _ => by simp)) (And.intro hR9 (And.intro H8.out.2.2.2.1 (show ∀ p : Addr, yo = some p → p.block ≠ mb from fun p hp => by have := (hy9 p hp).1; have := H8.out.2.2.2.2; have := H3.out.2.2.1; omega))))))
      have HMB : Hid (w.heap.size ≤ mb) := by have := H2.out.size; have := H3.out.2.2.2; unfold Hid; omega
      clear hE9 hO9 hR9 hy9
      go_wp2
      go_loopg [8] kp (fun cnt i wr => ∃ j : Nat, i = .int .i64 j ∧ j + cnt = kp ∧ Ext [mb] w9 wr ∧ ∃ es, IMap wr mb es ∧ AE es (P.take j))
      case atStart => exact ⟨0, rfl, by omega, Ext.refl _ _, [], H9.out.2.1, AE.nil⟩
      case round =>
        obtain ⟨j, rfl, hj, hE, es, hM, hA⟩ := hrel
        by_cases hlt : j < kp
        · obtain ⟨b, off, rfl, x0, x1⟩ := PutAt.cells (H9.out.2.2.1.ext (pR_ok _ _) hE (fun p hp => by simpa using H9.out.2.2.2.2.1 p hp)) hlt
          have hts := takeP_snoc (P := P) (j := j) (by rw [HSZ.out.2.2.2.2.2.1]; exact hlt)
          obtain ⟨p, hpp⟩ : ∃ p, P.getD j (0, 0) = p := ⟨_, rfl⟩
          rw [hpp] at x0 x1 hts
          have hi0 : (0 : Int) ≤ (j : Int) := by omega
          have hi1 : (j : Int) < (kp : Int) := by omega
          have hwj : wrap64 ((j : Int) + 1) = (j : Int) + 1 := IntWalk.wrap64_in _ (by have := HSZ.out.1; omega)
          obtain ⟨W2, hset, hE2, hm2, hs2⟩ := run_mapSet' (P := Try.prog) 50 3 39 Try.underlying50 Try.underlying3 hM.drew p.1 (.int .u64 p.2)
          have HJ : Hid (j + gk = kp ∧ j < kp ∧ Ext [mb] w9 W2 ∧ IMap W2 mb (upd es p.1 (.int .u64 p.2)) ∧ AE (upd es p.1 (.int .u64 p.2)) (P.take (j + 1))) := ⟨hj, hlt, hE.drew.trans hE2, hm2, by rw [hts]; exact hA.set p⟩
          clear hj hE hlt hpp hE2 hm2 hs2 hA hM hts
          go_wp2
          go_still_tail 11, (by kernel_rfl)
          change wpList _ _ _ _ _ (World.drew _)
          go_wp2
          go_roundg (kp - (j + 1))
          case measure => have := HJ.out.1; have := HJ.out.2.1; clear hwj; omega
          case rel => exact ⟨j + 1, by first | (rw [hwj]; rfl) | rfl, by have := HJ.out.1; have := HJ.out.2.1; clear hwj; omega, HJ.out.2.2.1, _, HJ.out.2.2.2⟩
        · have hjn : ¬ ((j : Int) < (kp : Int)) := by omega
          have hfull : P.take j = P := by rw [show j = P.length from by rw [HSZ.out.2.2.2.2.2.1]; omega, List.take_length]
          rw [hfull] at hA
          have H10 : Hid (Ext [mb] w9 wr ∧ IMap wr mb es ∧ AE es (P ++ Q.take 0)) := ⟨hE, hM, by rw [List.take_zero, List.append_nil]; exact hA⟩
          clear hj hlt hE hM hA hfull
          go_wp2
          rename World => w10
          go_loopg [9] kq (fun cnt i wr => ∃ j : Nat, i = .int .i64 j ∧ j + cnt = kq ∧ Ext [mb] w9 wr ∧ ∃ es, IMap wr mb es ∧ AE es (P ++ Q.take j))
          case atStart => exact ⟨0, rfl, by omega, H10.out.1, es, H10.out.2⟩
          case round =>
            clear H10 es hjn
            obtain ⟨j, rfl, hj, hE, es, hM, hA⟩ := hrel
            by_cases hlt : j < kq
            · obtain ⟨b, off, rfl, x0, x1⟩ := PutAt.cells (H9.out.2.2.2.1.ext (pR_ok _ _) hE (fun p hp => by simpa using H9.out.2.2.2.2.2 p hp)) hlt
              have hts := takeP_snoc (P := Q) (j := j) (by rw [HSZ.out.2.2.2.2.2.2.1]; exact hlt)
              obtain ⟨p, hpp⟩ : ∃ p, Q.getD j (0, 0) = p := ⟨_, rfl⟩
              rw [hpp] at x0 x1 hts
              have hi0 : (0 : Int) ≤ (j : Int) := by omega
              have hi1 : (j : Int) < (kq : Int) := by omega
              have hwj : wrap64 ((j : Int) + 1) = (j : Int) + 1 := IntWalk.wrap64_in _ (by have := HSZ.out.2.1; omega)
              obtain ⟨W2, hset, hE2, hm2, hs2⟩ := run_mapSet' (P := Try.prog) 50 3 39 Try.underlying50 Try.underlying3 hM.drew p.1 (.int .u64 p.2)
              have HJ : Hid (j + gk = kq ∧ j < kq ∧ Ext [mb] w9 W2 ∧ IMap W2 mb (upd es p.1 (.int .u64 p.2)) ∧ AE (upd es p.1 (.int .u64 p.2)) (P ++ Q.take (j + 1))) := ⟨hj, hlt, hE.drew.trans hE2, hm2, by rw [hts, ← List.append_assoc]; exact hA.set p⟩
              clear hj hE hlt hpp hE2 hm2 hs2 hA hM hts
              go_wp2
              go_still_tail 11, (by kernel_rfl)
              change wpList _ _ _ _ _ (World.drew _)
              go_wp2
              go_roundg (kq - (j + 1))
              case measure => have := HJ.out.1; have := HJ.out.2.1; clear hwj; omega
              case rel => exact ⟨j + 1, by first | (rw [hwj]; rfl) | rfl, by have := HJ.out.1; have := HJ.out.2.1; clear hwj; omega, HJ.out.2.2.1, _, HJ.out.2.2.2⟩
            · have hjn : ¬ ((j : Int) < (kq : Int)) := by omega
              have hfull : Q.take j = Q := by rw [show j = Q.length from by rw [HSZ.out.2.2.2.2.2.2.1]; omega, List.take_length]
              rw [hfull] at hA
              have hLy := HW.out es hA hM.nodup
              have hEw : Ext [] w wr := H9.out.1.trans' hE (fun q hq => .inr (by have := HMB.out; simp at hq; omega))
              have H11 := Lib.hid (And.intro hEw (And.intro hM hLy))
              clear hj hlt hE hM hA hfull hLy hEw
              have hb3 := World.alloc_heap_new wr (.cells #[] 45)
              have hY3 : Ext [] w (wr.alloc (.cells #[] 45)) := H11.out.1.alloc _
              have HA3 := Lib.hid (And.intro hY3 (And.intro hb3 (HSR.out.1.ext hY3 (fun _ _ => by simp))))
              clear hb3 hY3
              go_wp2_with (at_builtin; refine wpList_append_any rfl (.tmp 74) (.tmp 75) 22 rfl wr.heap.size 45 i0 _ 3 24 Try.underlying22 HI.out.1 HI.out.2.1 HI.out.2.2.1 HI.out.2.2.2 rfl (by omega) (.slice (some ⟨wr.heap.size, 0, none⟩) 0 0) 0 [] rfl (owns_empty HA3.out.2.1 (Nat.le_refl _)) ao n ca (rowC (tR L) n) rfl HA3.out.2.2 ?c1 ?c2 ?c3 ?_)
              case c1 => have h1 := HSZ.out.2.2.2.1; unfold maxLen; omega
              case c2 => have h1 := HSZ.out.2.2.2.1; omega
              try (case c3 => simp [World.size_alloc])
              intro v4 w4 ho4 hE4 _
              have e4 : Ext [] wr w4 := ((Ext.refl [] wr).alloc (.cells #[] 45)).trans' hE4 (fun j hj => .inr (by
                simp [Value.ownBlock] at hj
                omega))
              have hX4 : Ext [] w w4 := H11.out.1.trans e4
              have H4 := Lib.hid (And.intro e4 (And.intro ho4 (And.intro (HSR.out.2.ext hX4 (fun _ _ => by simp)) e4.size)))
              clear hX4 ho4 hE4 e4
              go_wp2_with (at_builtin; refine wpList_append_any rfl (.tmp 76) (.tmp 77) 22 rfl wr.heap.size 45 i0 _ 3 24 Try.underlying22 HI.out.1 HI.out.2.1 HI.out.2.2.1 HI.out.2.2.2 rfl (by omega) v4 n _ rfl H4.out.2.1 bo m cb (rowC (tR M) m) rfl H4.out.2.2.1 ?d1 ?d2 ?d3 ?_)
              case d1 => have h1 := HSZ.out.2.2.2.1; have h2 := HSZ.out.2.2.2.2.1; unfold maxLen; omega
              case d2 => have h1 := HSZ.out.2.2.2.1; have h2 := HSZ.out.2.2.2.2.1; omega
              case d3 => exact H4.out.2.2.2
              intro v5 w5 ho5 hE5 _
              have hX5 : Ext [] wr w5 := H4.out.1.trans' hE5 (fun j hj => .inr (H4.out.2.1.lt j (by simpa using hj)).1)
              have hO5 := TcOwn.two HN.out.1 HN.out.2 ho5
              obtain ⟨eo, ec, rfl, hT5, _⟩ := hO5.at (N := w5.heap.size)
              have HO5 := Lib.hid (HP3.out _ w5 _ (L ++ M).length eo ec hT5 rfl)
              obtain ⟨nab, hnab⟩ : ∃ nab, (L ++ M).length = nab := ⟨_, rfl⟩
              rw [hnab] at HO5 ⊢
              have H5 := Lib.hid hX5
              clear hX5 hO5 hT5 ho5 hE5 hnab
              go_wp2_with fail
              refine HO5.out.mono ?_
              rintro e w6 ⟨v6, rfl, hO6, hE6⟩
              obtain ⟨zo, zc, rfl, hR6, _⟩ := hO6.at
              rw [HSZ.out.2.2.2.2.2.2.2] at hR6 ⊢
              have H6 := Lib.hid (And.intro (H11.out.1.trans (H5.out.trans hE6)) (And.intro (H11.out.2.1.ext (H5.out.trans hE6) (by simp)) hR6))
              have hel := H11.out.2.2.len
              rw [HSZ.out.2.2.2.2.2.2.2] at hel
              have HEL := Lib.hid hel
              clear hE6 HO5 hO6 hR6 hel hjn
              go_wp2
              go_loopg [11] kr (fun cnt i wq => ∃ j : Nat, i = .int .i64 j ∧ j + cnt = kr ∧ Ext [] w6 wq)
              case atStart => exact ⟨0, rfl, by omega, Ext.refl _ _⟩
              case round =>
                obtain ⟨j, rfl, hj, hE⟩ := hrel
                rename World => wq
                by_cases hlt : j < kr
                · obtain ⟨b, off, rfl, x0, x1⟩ := PutAt.cells (H6.out.2.2.ext (pR_ok _ _) hE (fun _ _ => by simp)) hlt
                  have hlv := H11.out.2.2.val (k := j) (by rw [HSZ.out.2.2.2.2.2.2.2]; exact hlt)
                  obtain ⟨p, hpp⟩ : ∃ p, R.getD j (0, 0) = p := ⟨_, rfl⟩
                  rw [hpp] at x0 x1 hlv
                  have hi0 : (0 : Int) ≤ (j : Int) := by omega
                  have hi1 : (j : Int) < (kr : Int) := by omega
                  have hwj : wrap64 ((j : Int) + 1) = (j : Int) + 1 := IntWalk.wrap64_in _ (by have := HSZ.out.2.2.1; omega)
                  have hlk := run_look_ok (P := Try.prog) 50 3 39 (.int .u64 0) Try.underlying50 Try.underlying3 (zeroU wq) (H6.out.2.1.ext hE (by simp)) p.1
                  rw [hlv] at hlk
                  simp only [Option.getD_some, Option.isSome_some] at hlk
                  have hne : (p.2 != p.2) = false := bne_self_eq_false _
                  have HJ := Lib.hid (And.intro hj (And.intro hlt hE))
                  clear hj hE hlt hpp hlv
                  go_wp2
                  go_roundg (kr - (j + 1))
                  case measure => have := HJ.out.1; have := HJ.out.2.1; clear hwj; omega
                  case rel => exact ⟨j + 1, by first | (rw [hwj]; rfl) | rfl, by have := HJ.out.1; have := HJ.out.2.1; clear hwj; omega, HJ.out.2.2⟩
                · have hjn : ¬ ((j : Int) < (kr : Int)) := by omega
                  have hle := run_lenMap (P := Try.prog) 50 3 39 3 Try.underlying50 (H6.out.2.1.ext hE (by simp))
                  rw [HEL.out] at hle
                  have HE := Lib.hid (H6.out.1.trans hE)
                  clear hj hE hlt
                  go_wp2_with fail
                  refine (law05_works _).mono ?_
                  rintro e w18 ⟨rfl, hE⟩
                  go_wp2
                  go_ret
                  exact ⟨rfl, HE.out.trans hE⟩
    · have g : (tcheck M != 0) = true := by simpa using hz2
      rw [hz1] at HA
      generalize tcheck M = c at *
      clear hz2 hz1
      go_enter Try.func7, Try.ntmps7
      go_wp2_with fail
      refine HA.out.mono ?_
      rintro e w1 ⟨rfl, hE1⟩
      have H1 := Lib.hid hE1
      clear hE1
      go_wp2_with (go_at_call 13; refine (la_numR _ _).mono ?_; rintro e w' ⟨rfl, rfl⟩)
      refine (HB.out _ H1.out).mono ?_
      rintro e w2 ⟨rfl, hE2⟩
      have H2 := Lib.hid (H1.out.trans hE2)
      clear hE2
      go_wp2_with (go_at_call 13; refine (la_numR _ _).mono ?_; rintro e w' ⟨rfl, rfl⟩)
      refine (law05_works _).mono ?_
      rintro e w18 ⟨rfl, hE⟩
      go_wp2
      go_ret
      exact ⟨rfl, H2.out.trans hE⟩
  · have g : (tcheck L != 0) = true := by simpa using hz1
    generalize tcheck L = c at *
    clear hz1
    go_enter Try.func7, Try.ntmps7
    go_wp2_with fail
    refine HA.out.mono ?_
    rintro e w1 ⟨rfl, hE1⟩
    have H1 := Lib.hid hE1
    clear hE1
    go_wp2_with (go_at_call 13; refine (la_numR _ _).mono ?_; rintro e w' ⟨rfl, rfl⟩)
    refine (law05_works _).mono ?_
    rintro e w18 ⟨rfl, hE⟩
    go_wp2
    go_ret
    exact ⟨rfl, H1.out.trans hE⟩
end Go.Proofs.Ytmfbgkcphiomaaa
