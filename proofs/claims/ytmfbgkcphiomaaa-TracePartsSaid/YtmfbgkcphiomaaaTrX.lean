/- TraceHolds: the walk. -/
import Derived.Test.YtmfbgkcphiomaaaTrU
namespace Go.Proofs.Ytmfbgkcphiomaaa
open Go Go.RowKit Go.Shelf
attribute [local go_sem] Oper.semAt_some

theorem la_numR (e : Int) (w : World) : Calls Try.prog 13 #[.int .i64 e] w fun x w' => x = .returned (.int .i64 e) ∧ w = w' := (la_num e w).mono fun _ _ ⟨a, b⟩ => ⟨a, b.symm⟩
theorem clo_zero {L A : List Tch} (h : clo L = (A, 0)) : tcheck L = 0 ∧ closedL L = (A, 0) := by
  unfold clo at h
  by_cases h0 : tcheck L = 0
  · rw [if_pos h0] at h
    exact ⟨h0, h⟩
  · rw [if_neg h0] at h
    injection h with _ h2
    exact absurd h2 h0
theorem TcOwn.two {w : World} {base na nb : Nat} {v : Value} {A B : List Tch} (ha : A.length = na) (hb : B.length = nb) (h : w.ownsRow base 45 3 v (na + nb) (rowC (tR A) na ++ rowC (tR B) nb)) : TcOwn w base v (A ++ B) := by
  subst ha hb
  unfold TcOwn
  rw [tR_append, List.length_append]
  exact h
theorem TcAt.take {w : World} {N : Nat} {ao : Option Addr} {L : List Tch} (h : TcAt w N ao L) (m : Nat) (hm : m ≤ L.length) : TcAt w N ao (L.take m) := by
  have hl : (L.take m).length = m := by rw [List.length_take]; omega
  refine ⟨?_, ?_⟩
  · rw [hl]
    rcases h.1 with h1 | ⟨b, off, h1, h2⟩
    · exact .inl (by omega)
    · refine .inr ⟨b, off, h1, fun i hi j hj => ?_⟩
      rw [h2 i (by omega) j hj]
      unfold tR
      rw [List.getD_eq_getElem?_getD (l := L.take m), List.getElem?_take, if_pos hi, ← List.getD_eq_getElem?_getD]
  · rw [hl]
    rcases h.2 with h1 | h1
    · exact .inl (by omega)
    · exact .inr h1

set_option maxRecDepth 100000 in
set_option maxHeartbeats 8000000 in
theorem tr_holds (ao bo : Option Addr) (ca cb : Nat) (L M : List Tch) (w : World) (hp : TcAt w w.heap.size ao L) (hq : TcAt w w.heap.size bo M) (_ : L.length ≤ maxLen) (_ : M.length ≤ maxLen) :
    Calls Try.prog 6 #[.slice ao L.length ca, .slice bo M.length cb] w fun e w' => e = .returned (.bool true) ∧ Ext [] w w' := by
  by_cases hbig : 40 < L.length
  · have hd : ((40 : Int) < ((L.length : Nat) : Int)) := by omega
    generalize L.length = n at *
    generalize M.length = m at *
    clear hp hq hbig
    go_enter Try.func6, Try.ntmps6
    go_wp2_with fail
    refine (law05_works _).mono ?_
    rintro e w1 ⟨rfl, hE⟩
    go_wp2
    go_ret
    exact ⟨rfl, hE⟩
  by_cases hbig2 : 40 < M.length
  · have hd : ¬ ((40 : Int) < ((L.length : Nat) : Int)) := by omega
    have hd2 : ((40 : Int) < ((M.length : Nat) : Int)) := by omega
    generalize L.length = n at *
    generalize M.length = m at *
    clear hp hq hbig hbig2
    go_enter Try.func6, Try.ntmps6
    go_wp2_with fail
    refine (law05_works _).mono ?_
    rintro e w1 ⟨rfl, hE⟩
    go_wp2
    go_ret
    exact ⟨rfl, hE⟩
  have hd : ¬ ((40 : Int) < ((L.length : Nat) : Int)) := by omega
  have hd2 : ¬ ((40 : Int) < ((M.length : Nat) : Int)) := by omega
  have hn : L.length ≤ 40 := by omega
  have hm : M.length ≤ 40 := by omega
  obtain ⟨A, e1, hA⟩ : ∃ A e, clo L = (A, e) := ⟨_, _, rfl⟩
  obtain ⟨B, e2, hB⟩ : ∃ B e, clo M = (B, e) := ⟨_, _, rfl⟩
  have HA := Lib.hid (tr_Closed w.heap.size ao ca L w hp (by omega))
  have HB := Lib.hid (fun W (hE : Ext [] w W) => tr_Closed w.heap.size bo cb M W (hq.ext0 hE) (by omega))
  rw [hA] at HA
  rw [hB] at HB
  have HP := Lib.hid (And.intro hp (And.intro hn (And.intro hm (And.intro hA hB))))
  obtain ⟨n, hnl⟩ : ∃ n, L.length = n := ⟨_, rfl⟩
  obtain ⟨m, hml⟩ : ∃ m, M.length = m := ⟨_, rfl⟩
  rw [hnl] at hd HA ⊢
  rw [hml] at hd2 HB ⊢
  have HN := Lib.hid hnl
  clear hp hq hbig hbig2 hn hm hA hB hnl hml
  go_enter Try.func6, Try.ntmps6
  go_wp2_with fail
  refine HA.out.mono ?_
  rintro e w1 ⟨v1, rfl, hE1, hO1⟩
  obtain ⟨co, cc, rfl, _, _⟩ := hO1.at (N := w.heap.size)
  have H1 := Lib.hid (And.intro hE1 hO1)
  clear hE1 hO1
  dsimp only
  go_wp2_with fail
  refine (HB.out _ H1.out.1).mono ?_
  rintro e w2 ⟨v2, rfl, hE2, hO2⟩
  obtain ⟨do', dc, rfl, _, _⟩ := hO2.at (N := w.heap.size)
  have H2 := Lib.hid (And.intro (H1.out.1.trans hE2) (And.intro (H1.out.2.ext hE2) hO2))
  clear hE2 hO2
  dsimp only
  clear hd hd2
  by_cases hz1 : e1 = 0
  · by_cases hz2 : e2 = 0
    · subst hz1 hz2
      obtain ⟨hcL, hkL⟩ := clo_zero HP.out.2.2.2.1
      obtain ⟨hcM, hkM⟩ := clo_zero HP.out.2.2.2.2
      have rL := (tcheck_zero hcL).1
      have rM := (tcheck_zero hcM).1
      have cA := clo_ok rL hkL
      have cB := clo_ok rM hkM
      have lA := cA.len
      have lB := cB.len
      have hn40 := HP.out.2.1
      have hm40 := HP.out.2.2.1
      have tA : tcheck A = 0 := tcheck_of cA.right (by omega)
      have tAB : tcheck (A ++ B) = 0 := tcheck_of (right_append cA.right cB.right) (by rw [List.length_append]; omega)
      have oAB := ord_append cA.right cB.right cA.ord cB.ord
      have pl : (putsL L).length ≤ 40 := Nat.le_trans (putsL_le rL) hn40
      have sL : putsL (stL L) = putsL L := by unfold stL; rw [if_pos hcL]
      have sA : putsL (stL A) = putsL L := by unfold stL; rw [if_pos tA]; exact cA.puts
      have hpre : A.take n = L := by rw [← HN.out]; exact cA.pre
      have hge : n ≤ A.length := by rw [← HN.out]; exact cA.ge
      have hOA := H2.out.2.1
      obtain ⟨_, _, ee, tA2, hcap, _⟩ := hOA.at (N := w1.heap.size)
      injection ee with f1 f2 f3
      subst f1 f3
      have HOrd := Lib.hid (fun W (hE : Ext [] w2 W) => tr_Orderly w1.heap.size co cc A W (tA2.ext0 hE) (by omega))
      rw [show (tcheck A == 0 && ordL A) = true from by rw [tA, cA.ord]; rfl] at HOrd
      have HOrd2 := Lib.hid (fun N W v b ao' cap' (h : TcAt W N ao' (A ++ B)) (_ : v = Value.slice ao' b cap') => tr_Orderly N ao' cap' (A ++ B) W h (by rw [List.length_append]; omega))
      rw [show (tcheck (A ++ B) == 0 && ordL (A ++ B)) = true from by rw [tAB, oAB]; rfl] at HOrd2
      have HSame := Lib.hid (fun W (hE : Ext [] w2 W) => ts_Same w1.heap.size w.heap.size co ao cc ca (A.take n) L W ((tA2.take n hge).ext0 hE) (HP.out.1.ext0 (H2.out.1.trans hE)) (by rw [hpre]; omega) (by omega))
      rw [hpre, decide_eq_true rfl, HN.out] at HSame
      have HP1 := Lib.hid (fun W (hE : Ext [] w2 W) => la_puts w.heap.size ao ca L W (HP.out.1.ext0 (H2.out.1.trans hE)) (by omega) (by rw [sL]; omega))
      have HP2 := Lib.hid (fun W (hE : Ext [] w2 W) => la_puts w1.heap.size co cc A W (tA2.ext0 hE) (by omega) (by rw [sA]; omega))
      rw [sL, HN.out] at HP1
      rw [sA] at HP2
      have srcA := tA2.src
      obtain ⟨_, _, ee2, tB2, _, _⟩ := H2.out.2.2.at (N := w2.heap.size)
      injection ee2 with g1 g2 g3
      subst g1
      have srcB := tB2.src
      obtain ⟨P, hP⟩ : ∃ P, putsL L = P := ⟨_, rfl⟩
      rw [hP] at pl HP1 HP2
      obtain ⟨na, hna⟩ : ∃ na, A.length = na := ⟨_, rfl⟩
      obtain ⟨nb, hnb⟩ : ∃ nb, B.length = nb := ⟨_, rfl⟩
      have HSZ : Hid (na ≤ 1065 ∧ nb ≤ 1065 ∧ P.length ≤ 40 ∧ n ≤ na ∧ A.length = na ∧ B.length = nb) := ⟨by omega, by omega, pl, by omega, hna, hnb⟩
      rw [hna] at HOrd HP2 srcA ⊢
      rw [hnb] at srcB ⊢
      have HSR := Lib.hid (And.intro srcA srcB)
      have hnl : ¬ ((na : Int) < (n : Int)) := by omega
      have hnle : n ≤ na := by omega
      have hcap2 : n ≤ cc := by omega
      obtain ⟨i0, hi, hz0, hz1, hz2⟩ := info_parts infoTch
      have HI := Lib.hid (And.intro hi (And.intro hz0 (And.intro hz1 hz2)))
      clear hcL hkL hcM hkM rL rM cA cB lA lB hn40 hm40 tA tAB oAB pl sL sA hpre hge hOA tA2 hcap tB2 g3 hP hna hnb srcA srcB hi hz0 hz1 hz2
      have hnn := nePutSelf
      go_wp2_with (go_at_call 13; refine (la_numR _ _).mono ?_; rintro e w' ⟨rfl, rfl⟩)
      refine (HOrd.out _ (Ext.refl _ _)).mono ?_
      rintro e w3 ⟨rfl, hE3⟩
      have hb3 := World.alloc_heap_new w3 (.cells #[] 45)
      have hY3 : Ext [] w2 (w3.alloc (.cells #[] 45)) := hE3.alloc _
      have H3 := Lib.hid (And.intro hY3 (And.intro hb3 (And.intro (HSR.out.1.ext hY3 (fun _ _ => by simp)) hE3.size)))
      clear hE3 hb3 hY3
      go_wp2_with (at_builtin; refine wpList_append_any rfl (.tmp 44) (.tmp 45) 22 rfl w3.heap.size 45 i0 _ 3 24 Try.underlying22 HI.out.1 HI.out.2.1 HI.out.2.2.1 HI.out.2.2.2 rfl (by omega) (.slice (some ⟨w3.heap.size, 0, none⟩) 0 0) 0 [] rfl (owns_empty H3.out.2.1 (Nat.le_refl _)) co na cc (rowC (tR A) na) rfl H3.out.2.2.1 ?c1 ?c2 ?c3 ?_)
      case c1 => have h1 := HSZ.out.1; unfold maxLen; omega
      case c2 => have h1 := HSZ.out.1; omega
      case c3 => simp [World.size_alloc]
      intro v4 w4 ho4 hE4 _
      have hX4 : Ext [] w2 w4 := H3.out.1.trans' hE4 (fun j hj => .inr (by
        simp [Value.ownBlock] at hj
        have h1 := H3.out.2.2.2
        omega))
      have H4 := Lib.hid (And.intro hX4 (And.intro ho4 (And.intro (HSR.out.2.ext hX4 (fun _ _ => by simp)) (show w3.heap.size ≤ w4.heap.size by have := hE4.size; simp at this; omega))))
      clear hX4 ho4 hE4
      go_wp2_with (at_builtin; refine wpList_append_any rfl (.tmp 46) (.tmp 47) 22 rfl w3.heap.size 45 i0 _ 3 24 Try.underlying22 HI.out.1 HI.out.2.1 HI.out.2.2.1 HI.out.2.2.2 rfl (by omega) v4 na _ rfl H4.out.2.1 do' nb dc (rowC (tR B) nb) rfl H4.out.2.2.1 ?d1 ?d2 ?d3 ?_)
      case d1 => have h1 := HSZ.out.1; have h2 := HSZ.out.2.1; unfold maxLen; omega
      case d2 => have h1 := HSZ.out.1; have h2 := HSZ.out.2.1; omega
      case d3 => exact H4.out.2.2.2
      intro v5 w5 ho5 hE5 _
      have hX5 : Ext [] w2 w5 := H4.out.1.trans' hE5 (fun j hj => .inr (Nat.le_trans H3.out.2.2.2 (H4.out.2.1.lt j (by simpa using hj)).1))
      have hO5 := TcOwn.two HSZ.out.2.2.2.2.1 HSZ.out.2.2.2.2.2 ho5
      obtain ⟨eo, ec, rfl, hT5, _⟩ := hO5.at (N := w5.heap.size)
      have HO5 := Lib.hid (HOrd2.out _ w5 _ (A ++ B).length eo ec hT5 rfl)
      obtain ⟨nab, hnab⟩ : ∃ nab, (A ++ B).length = nab := ⟨_, rfl⟩
      rw [hnab] at HO5 ⊢
      have H5 := Lib.hid hX5
      clear hX5 hO5 hT5 ho5 hE5 hnab
      go_wp2_with fail
      refine HO5.out.mono ?_
      rintro e w6 ⟨rfl, hE6⟩
      have H6 := Lib.hid (H5.out.trans hE6)
      clear hE6 HO5
      go_wp2_with fail
      refine (HSame.out _ H6.out).mono ?_
      rintro e w7 ⟨rfl, qq, hw7⟩
      have H7 : Hid (Ext [] w2 w7) := by rw [hw7]; exact H6.out.drewN qq
      clear hw7 hcap2
      go_wp2_with fail
      refine (HP1.out _ H7.out).mono ?_
      rintro e w8 ⟨v8, rfl, hO8, hE8⟩
      obtain ⟨xo, xc, rfl, hR8, _⟩ := hO8.at
      have H8 := Lib.hid (And.intro (H7.out.trans hE8) hR8)
      clear hE8 hO8 hR8
      go_wp2_with fail
      refine (HP2.out _ H8.out.1).mono ?_
      rintro e w9 ⟨v9, rfl, hO9, hE9⟩
      obtain ⟨yo, yc, rfl, hR9, _⟩ := hO9.at
      have H9 := Lib.hid (And.intro (H8.out.1.trans hE9) (And.intro (H8.out.2.ext (pR_ok _ _) hE9 (fun _ _ => by simp)) hR9))
      clear hE9 hO9 hR9
      obtain ⟨k, hk⟩ : ∃ k, P.length = k := ⟨_, rfl⟩
      rw [hk] at H9 ⊢
      have HK : Hid (k ≤ 40) := by unfold Hid; rw [← hk]; exact HSZ.out.2.2.1
      have hkk : ((k : Int) != (k : Int)) = false := bne_self_eq_false _
      clear hk hnl hnle
      go_wp2
      go_loopg [11] k (fun cnt i wr => ∃ j : Nat, i = .int .i64 j ∧ j + cnt = k ∧ Ext [] w9 wr)
      case atStart => exact ⟨0, rfl, by omega, Ext.refl _ _⟩
      case round =>
        obtain ⟨j, rfl, hj, hE⟩ := hrel
        by_cases hlt : j < k
        · obtain ⟨b, off, rfl, x0, x1⟩ := PutAt.cells (H9.out.2.1.ext (pR_ok _ _) hE (fun _ _ => by simp)) hlt
          obtain ⟨b', off', rfl, y0, y1⟩ := PutAt.cells (H9.out.2.2.ext (pR_ok _ _) hE (fun _ _ => by simp)) hlt
          obtain ⟨p, hpp⟩ : ∃ p, P.getD j (0, 0) = p := ⟨_, rfl⟩
          rw [hpp] at x0 x1 y0 y1
          have hi0 : (0 : Int) ≤ (j : Int) := by omega
          have hi1 : (j : Int) < (k : Int) := by omega
          have hwj : wrap64 ((j : Int) + 1) = (j : Int) + 1 := IntWalk.wrap64_in _ (by have := HK.out; omega)
          have hnp := hnn p.1 p.2
          have HJ := Lib.hid (And.intro hj (And.intro hlt hE))
          clear hj hE hlt hpp
          go_wp2
          go_quiet (fail)
          go_wp2
          go_roundg (k - (j + 1))
          case measure => have := HJ.out.1; have := HJ.out.2.1; clear hwj; omega
          case rel => exact ⟨j + 1, by first | (rw [hwj]; rfl) | rfl, by have := HJ.out.1; have := HJ.out.2.1; clear hwj; omega, HJ.out.2.2.drewN _⟩
        · have hjn : ¬ ((j : Int) < (k : Int)) := by omega
          have HE := Lib.hid (H2.out.1.trans (H9.out.1.trans hE))
          clear hj hE hlt
          go_wp2_with fail
          refine (law05_works _).mono ?_
          rintro e w18 ⟨rfl, hE⟩
          go_wp2
          go_ret
          exact ⟨rfl, HE.out.trans hE⟩
    · subst hz1
      have g : (e2 != 0) = true := by simpa using hz2
      clear hz2
      go_wp2_with (go_at_call 13; refine (la_numR _ _).mono ?_; rintro e w' ⟨rfl, rfl⟩)
      refine (law05_works _).mono ?_
      rintro e w18 ⟨rfl, hE⟩
      go_wp2
      go_ret
      exact ⟨rfl, H2.out.1.trans hE⟩
  · have g : (e1 != 0) = true := by simpa using hz1
    clear hz1
    go_wp2_with (go_at_call 13; refine (la_numR _ _).mono ?_; rintro e w' ⟨rfl, rfl⟩)
    refine (law05_works _).mono ?_
    rintro e w18 ⟨rfl, hE⟩
    go_wp2
    go_ret
    exact ⟨rfl, H2.out.1.trans hE⟩
end Go.Proofs.Ytmfbgkcphiomaaa
