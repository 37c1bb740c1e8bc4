/- The document's Publish. -/
import Derived.Test.YtjdojckemphadaaRdZ
import Derived.Test.YtjdojckemphadaaRdY
import Derived.Test.YtjdojckemphadaaRcq
namespace Go.Proofs.Ytjdojckemphadaa
open Go Go.RowKit Go.Shelf
attribute [local go_sem] Oper.semAt_some

/-- touches gathered, and a record's words -/
structure RS (w W : World) (ab : Nat) (F : Nat → Int) (v : Value) (T : List Tch) : Prop where
  own : TcOwn W w.heap.size v T
  ex : Ext [] w W
  arr : W.heap[ab]? = some (.cells (arrF 24 F) 49 (0, 0))
theorem RS.ext0 {w W W' : World} {ab : Nat} {F : Nat → Int} {v : Value} {T : List Tch} (h : RS w W ab F v T) (hE : Ext [] W W') : RS w W' ab F v T :=
  ⟨h.own.ext hE, h.ex.trans hE, hE.at h.arr (by simp)⟩
theorem RS.app {w W wA : World} {ab m : Nat} {F : Nat → Int} {v v1 : Value} {T M : List Tch} (hm : M.length = m) (h : RS w W ab F v T) (ho : wA.ownsRow w.heap.size 44 3 v1 (T.length + m) (rowC (tR T) T.length ++ rowC (tR M) m)) (hE : Ext v.ownBlock.toList W wA) : RS w wA ab F v1 (T ++ M) := by
  subst hm
  refine ⟨?_, h.ex.trans' hE (fun b hb => .inr (h.own.lt b (by simpa using hb)).1), hE.at h.arr (fun hm => ?_)⟩
  · unfold TcOwn
    rw [tR_append, List.length_append]
    exact ho
  · obtain ⟨cur, f, h1⟩ := own_touch h.own (g := ab) (by simpa using hm)
    rw [h.arr] at h1
    simp at h1
theorem RS.step {w W : World} {ab : Nat} {F : Nat → Int} {v : Value} {T : List Tch} (M : List Tch) (xo : Option Addr) (m c N : Nat) {ops : Array Oper} {rest : List Oper} {o : Oper} {a : Act} {Q : Exit → Act → World → Prop} (h : RS w W ab F v T) (hg : Region.wanted o (yielded ops a.tmps) = true) (s x : Operand)
    (ho : o.op = .call { callee := .builtin .append, args := #[s, x], argTypes := #[24, 24] })
    (hs : a.eval s = v) (hx : a.eval x = .slice xo m c) (hm : M.length = m) (hl : T.length + m ≤ 50000) (hsrc : TcAt W N xo M)
    (k : ∀ v' w', RS w w' ab F v' (T ++ M) → wpList Try.prog ops Q rest (a.put o.dst v') w') : wpList Try.prog ops Q (o :: rest) a W := by
  subst hm
  obtain ⟨i0, hi, hz0, hz1, hz2⟩ := info_parts infoTch
  refine wpList_append_any hg s x 24 ho w.heap.size 44 i0 _ 3 24 Try.underlying24 hi hz0 hz1 hz2 rfl (by omega) v T.length _ hs h.own xo M.length c _ hx hsrc.src (by unfold maxLen; omega) (by omega) h.ex.size ?_
  intro v' w' ho' hE' _
  exact k v' w' (h.app rfl ho' hE')
theorem anyP_succ (p : Int × Int → Bool) (P : Nat → Int × Int) (k : Nat) : anyP p P (k + 1) = (anyP p P k || p (P k)) := by simp [anyP, List.range_succ]
/-- the error so far -/
def noE (j : Int) (n : Nat) (P : Nat → Int × Int) (k : Nat) : Int := if anyP (fun q => jHas j q.1) P k = true then 2 else checkE P n
theorem noE_succ (j : Int) (n : Nat) (P : Nat → Int × Int) (k : Nat) : noE j n P (k + 1) = if jHas j (P k).1 = true then 2 else noE j n P k := by
  unfold noE
  rw [anyP_succ]
  cases anyP (fun q => jHas j q.1) P k <;> cases jHas j (P k).1 <;> rfl
theorem pubE_no {j : Int} {n : Nat} {P : Nat → Int × Int} (hj : jOk j = true) (h : noE j n P n ≠ 0) : pubE j n P = ([], noE j n P n) := by
  unfold noE pubE at *
  by_cases ha : anyP (fun q => jHas j q.1) P n = true
  · rw [if_pos ha] at h ⊢
    rw [if_neg (fun h2 => by rw [ha] at h2; cases h2.2)]
  · rw [if_neg ha] at h ⊢
    rw [if_pos ⟨hj, by simpa using ha⟩, if_neg h]
theorem pubE_yes {j : Int} {n : Nat} {P : Nat → Int × Int} (hj : jOk j = true) (h : noE j n P n = 0) : pubE j n P = (pubT j n P, 0) ∧ checkE P n = 0 := by
  unfold noE at h
  unfold pubE
  by_cases ha : anyP (fun q => jHas j q.1) P n = true
  · rw [if_pos ha] at h
    cases h
  · rw [if_neg ha] at h
    exact ⟨by rw [if_pos ⟨hj, by simpa using ha⟩, if_pos h], h⟩

set_option maxRecDepth 100000 in
set_option maxHeartbeats 8000000 in
theorem rf_Publish (j : Int) (ao : Option Addr) (n cap : Nat) (P : Nat → Int × Int) (w : World) (hp : Puts w ao n P) (hn : n ≤ 9223372036854775807) :
    Calls Try.prog 7 #[.int .i64 j, .slice ao n cap] w (PubPost w (pubE j n P)) := by
  have HPN := Lib.hid (And.intro hp hn)
  cases hjo : jOk j with
  | false =>
    have HR := Lib.hid (fun w => rf_Journal j w)
    rw [hjo] at HR
    have hpe : pubE j n P = ([], 2) := by unfold pubE; rw [if_neg (fun h => by rw [hjo] at h; cases h.1)]
    have HPE := Lib.hid hpe
    clear hjo hpe hp hn
    go_enter Try.func7, Try.ntmps7
    go_wp2_with fail
    refine (HR.out _).mono ?_
    rintro e w' ⟨rfl, rfl⟩
    go_wp2
    go_ret2
    rw [HPE.out]
    exact ⟨_, rfl, Ext.refl _ _, TcOwn.nil _ _⟩
  | true =>
    have hjj : 0 ≤ j ∧ j ≤ 1021 := by unfold jOk at hjo; simpa using hjo
    have HR := Lib.hid (fun w => rf_Journal j w)
    rw [hjo] at HR
    have HJ := Lib.hid (And.intro hjo hjj)
    have HC := Lib.hid (ref_check ao n cap P w hp hn)
    unfold ChkPost at HC
    obtain ⟨c, hc⟩ : ∃ c, checkE P n = c := ⟨_, rfl⟩
    rw [hc] at HC
    have h0 : noE j n P 0 = c := by unfold noE anyP; simpa using hc
    have HC0 := Lib.hid h0
    have hw8 : wrap64 (8 * j) = 8 * j := IntWalk.wrap64_in _ (by omega)
    have hw24 : wrap64 (8 * j + 24) = 8 * j + 24 := IntWalk.wrap64_in _ (by omega)
    have hn18 : (n : Int) ≤ 9223372036854775807 := by omega
    clear hjo hjj hp hn hc h0
    go_enter Try.func7, Try.ntmps7
    go_wp2_with fail
    refine (HR.out _).mono ?_
    rintro e w' ⟨rfl, rfl⟩
    go_wp2_with fail
    refine HC.out.mono ?_
    rintro e w1 ⟨rfl, hE1⟩
    have H1 := Lib.hid hE1
    clear hE1
    go_wp2
    go_loopg [6, 7] n (fun cnt no i wr => ∃ k : Nat, i = .int .i64 k ∧ no = .int .i64 (noE j n P k) ∧ k + cnt = n ∧ wr = w1)
    case atStart => exact ⟨0, rfl, by rw [HC0.out], by omega, rfl⟩
    case round =>
      obtain ⟨k, rfl, rfl, hk, rfl⟩ := hrel
      obtain ⟨d, hd⟩ : ∃ d, noE j n P k = d := ⟨_, rfl⟩
      by_cases hlt : k < n
      · obtain ⟨b, off, rfl, c0, _⟩ : ∃ b off, ao = some ⟨b, off, none⟩ ∧ wr.cell? ⟨b, off + k * 2, none⟩ = some (.int .i64 (P k).1) ∧ wr.cell? ⟨b, off + k * 2 + 1, none⟩ = some (.int .u64 (P k).2) := by
          rcases HPN.out.1.ext H1.out with h | ⟨b, off, h1, h2⟩
          · omega
          · exact ⟨b, off, h1, h2 k hlt⟩
        have hss := noE_succ j n P k
        rw [hd] at hss ⊢
        obtain ⟨a, ha⟩ : ∃ a, (P k).1 = a := ⟨_, rfl⟩
        rw [ha] at c0 hss
        unfold jHas at hss
        obtain ⟨A, hA⟩ : ∃ A, decide (8 * j ≤ a) = A := ⟨_, rfl⟩
        obtain ⟨B, hB⟩ : ∃ B, decide (a < 8 * j + 24) = B := ⟨_, rfl⟩
        rw [hA, hB] at hss
        have hk0 : (0 : Int) ≤ (k : Int) := by omega
        have hk1 : (k : Int) < (n : Int) := by omega
        have hwj : wrap64 ((k : Int) + 1) = (k : Int) + 1 := IntWalk.wrap64_in _ (by clear hw8 hw24 hA hB; omega)
        have HK := Lib.hid (And.intro hk hlt)
        clear hk hlt ha hd
        cases A <;> cases B
        all_goals
          have HS := Lib.hid hss
          clear hss
          go_wp2
          go_roundg (n - (k + 1))
          case measure => have := HK.out; clear hwj hw8 hw24 hA hB; omega
          case rel => exact ⟨k + 1, by first | (rw [hwj]; rfl) | rfl, by rw [HS.out]; rfl, by have := HK.out; clear hwj hw8 hw24 hA hB; omega, rfl⟩
      · have hjn : ¬ ((k : Int) < (n : Int)) := by omega
        obtain rfl : k = n := by omega
        rw [hd]
        clear hk hlt hn18 hw24
        by_cases hz : d = 0
        · subst hz
          obtain ⟨hpe, hce⟩ := pubE_yes HJ.out.1 hd
          have HPE := Lib.hid hpe
          have hok := checkE_ok hce
          have HPR := Lib.hid (fun i (hi : i < k) => okN_at hok.1 i hi)
          have HN := Lib.hid (And.intro hce (And.intro hok.2.1 (HPN.out.1.ext H1.out)))
          have hal : (appT k P).length ≤ 2000 := by
            have h1 : (storedL (stoT k P)).length ≤ 1024 := upto_len _ _
            have h2 := hok.2.1
            rw [appT_eq, List.length_append, List.length_append, stoT_len]
            unfold flK
            rw [List.length_map]
            simp
            omega
          have HAL := Lib.hid hal
          clear hpe hce hok hd hal
          by_cases h1 : k = 1
          · have hd : ((k : Int) == 1) = true := by simp; omega
            have HA := Lib.hid (rf_apply ao k cap P wr HN.out.2.2 (by have := HN.out.2.1; omega) HPR.out)
            have hpt : pubT j k P = appT k P := by unfold pubT; rw [if_pos h1]
            have HPT := Lib.hid hpt
            clear h1 hpt
            go_wp2_with fail
            refine HA.out.mono ?_
            rintro e w2 ⟨v, rfl, hO, hE⟩
            have HR := Lib.hid (And.intro (H1.out.trans hE) (hO.low H1.out.size))
            clear hO hE
            go_wp2
            go_ret2
            rw [HPE.out, HPT.out]
            exact ⟨_, rfl, HR.out⟩
          · have hd : ((k : Int) == 1) = false := by simp; omega
            have HA := Lib.hid (ref_pack ao k cap P wr HN.out.2.2 HN.out.1)
            have hpt : pubT j k P = ([] ++ wrS j (packW k P) 23) ++ [⟨3, j, 0⟩, ⟨3, j + 1, 0⟩, ⟨3, j + 2, 0⟩, ⟨4, 0, 0⟩] ++ fstT j (packW k P 0) ++ appT k P ++ fstT j 0 := by unfold pubT wrT; rw [if_neg h1]; rfl
            have HPT := Lib.hid hpt
            obtain ⟨F, hF⟩ : ∃ F, packW k P = F := ⟨_, rfl⟩
            rw [hF] at HA HPT
            clear h1 hpt hF
            go_wp2_with fail
            refine HA.out.mono ?_
            rintro e w2 ⟨rfl, hE2⟩
            have H2 := Lib.hid (H1.out.trans hE2)
            clear hE2
            go_upto_region 14 with ((with_reducible refine store25z (g := w2.heap.size) (G := F) ?_ ?_ ?_ ?_); exact rfl; exact rfl; exact rfl; intro W1 hE1 hs1 hb1; clear hs1)
            obtain ⟨ab, hab⟩ : ∃ b, w2.heap.size = b := ⟨_, rfl⟩
            rw [hab] at hb1 ⊢
            have HS : Hid (RS w W1 ab F (.slice none 0 0) []) := ⟨TcOwn.nil _ _, H2.out.trans hE1, hb1⟩
            clear hE1 hb1 hab
            go_wp2
            go_loopg [9, 10] 24 (fun cnt v i wr => ∃ m : Nat, i = .int .i64 m ∧ m + cnt = 25 ∧ 1 ≤ m ∧ m ≤ 24 ∧ RS w wr ab F v (wrS j F (m - 1)))
            case atStart => exact ⟨1, rfl, by omega, by omega, by omega, HS.out⟩
            case round =>
              obtain ⟨m, rfl, hm, hm1, hm2, hS⟩ := hrel
              by_cases hlt : m < 24
              · have c0 := cell_of hS.arr (arrF_get 24 F m hlt)
                obtain ⟨x, hx⟩ : ∃ x, F m = x := ⟨_, rfl⟩
                rw [hx] at c0
                have hww : wrS j F (m + 1 - 1) = wrS j F (m - 1) ++ [⟨2, 8 * j + (m : Int), x⟩] := by
                  have h := wrS_succ j F (m - 1)
                  rw [show m - 1 + 1 = m from by omega, show (((m - 1 : Nat) : Int) + 1) = (m : Int) from by omega, hx] at h
                  exact h
                have hl : (wrS j F (m - 1)).length ≤ 30 := by rw [wrS_len]; omega
                have hk0 : (0 : Int) ≤ (m : Int) := by omega
                have hk1 : (m : Int) < 24 := by omega
                have hwj : wrap64 ((m : Int) + 1) = (m : Int) + 1 := IntWalk.wrap64_in _ (by clear hw8; omega)
                have hwa : wrap64 (8 * j + (m : Int)) = 8 * j + (m : Int) := IntWalk.wrap64_in _ (by have := HJ.out.2; clear hw8; omega)
                have HM := Lib.hid (And.intro hm (And.intro hm1 (And.intro hlt (And.intro hS (And.intro hww hl)))))
                clear hm hm1 hm2 hlt hS hww hl hx
                go_wp2_with fail
                try rw [hwa]
                refine (rf_store _ _ _).mono ?_
                rintro e w6 ⟨rfl, hE6⟩
                have HB := Lib.hid (And.intro (World.alloc_heap_new w6 (.cells #[.int .i64 2, .int .i64 (8 * j + (m : Int)), .int .u64 x] 44)) (hE6.trans ((Ext.refl [] w6).alloc (.cells #[.int .i64 2, .int .i64 (8 * j + (m : Int)), .int .u64 x] 44))))
                clear hE6
                go_wp2_with (at_builtin; refine RS.step [⟨2, 8 * j + (m : Int), x⟩] (some ⟨w6.heap.size, 0, none⟩) 1 1 0 (HM.out.2.2.2.1.ext0 HB.out.2) rfl _ _ rfl rfl rfl rfl (by have := HM.out.2.2.2.2.2; omega) (TcAt.lit HB.out.1) ?_; intro v5 w5 hR5; rw [← HM.out.2.2.2.2.1] at hR5)
                have H5 := Lib.hid hR5
                clear hR5 c0 HB
                go_wp2
                go_roundg (25 - (m + 1))
                case measure => have := HM.out.1; have := HM.out.2.2.1; clear hwj hw8 hwa; omega
                case rel => exact ⟨m + 1, by first | (rw [hwj]; rfl) | rfl, by have := HM.out.1; have := HM.out.2.2.1; clear hwj hw8 hwa; omega, by omega, by have := HM.out.2.2.1; clear hwj hw8 hwa; omega, H5.out⟩
              · have hk1 : ¬ ((m : Int) < 24) := by omega
                obtain rfl : m = 24 := by omega
                have hwj1 : wrap64 (j + 1) = j + 1 := IntWalk.wrap64_in _ (by have := HJ.out.2; clear hw8; omega)
                have hwj2 : wrap64 (j + 2) = j + 2 := IntWalk.wrap64_in _ (by have := HJ.out.2; clear hw8; omega)
                have HM := Lib.hid hS
                clear hm hm1 hm2 hlt hS
                go_wp2_with fail
                refine (rf_flush _ _).mono ?_
                rintro e w3 ⟨rfl, hE3⟩
                go_wp2_with fail
                try rw [hwj1]
                refine (rf_flush _ _).mono ?_
                rintro e w4 ⟨rfl, hE4⟩
                go_wp2_with fail
                try rw [hwj2]
                refine (rf_flush _ _).mono ?_
                rintro e w5 ⟨rfl, hE5⟩
                go_wp2_with fail
                refine (rf_fence _).mono ?_
                rintro e w6 ⟨rfl, hE6⟩
                have HB := Lib.hid (And.intro (World.alloc_heap_new w6 (.cells #[.int .i64 3, .int .i64 j, .int .u64 0, .int .i64 3, .int .i64 (j + 1), .int .u64 0, .int .i64 3, .int .i64 (j + 2), .int .u64 0, .int .i64 4, .int .i64 0, .int .u64 0] 44)) ((((hE3.trans hE4).trans hE5).trans hE6).trans ((Ext.refl [] w6).alloc (.cells #[.int .i64 3, .int .i64 j, .int .u64 0, .int .i64 3, .int .i64 (j + 1), .int .u64 0, .int .i64 3, .int .i64 (j + 2), .int .u64 0, .int .i64 4, .int .i64 0, .int .u64 0] 44))))
                clear hE3 hE4 hE5 hE6
                go_wp2_with (at_builtin; refine RS.step [⟨3, j, 0⟩, ⟨3, j + 1, 0⟩, ⟨3, j + 2, 0⟩, ⟨4, 0, 0⟩] (some ⟨w6.heap.size, 0, none⟩) 4 4 0 (HM.out.ext0 HB.out.2) rfl _ _ rfl rfl rfl rfl (by rw [wrS_len]; decide) (TcAt.lit HB.out.1) ?_; intro v7 w7 hR7; have H7 := Lib.hid hR7; have c0 := cell_of hR7.arr (arrF_get 24 F 0 (by omega)); clear hR7)
                refine (rf_first _ _ _ (by have := HJ.out.2; omega)).mono ?_
                rintro e w8 ⟨v8, rfl, hO8, hE8⟩
                obtain ⟨ao8, cap8, rfl, hT8, _, _⟩ := hO8.at (N := 0)
                have H8 := Lib.hid (And.intro (H7.out.ext0 hE8) hT8)
                clear hO8 hT8 hE8 c0
                go_wp2_with (at_builtin; refine RS.step (fstT j (F 0)) ao8 3 cap8 0 H8.out.1 rfl _ _ rfl rfl rfl rfl (by simp [wrS_len]) H8.out.2 ?_; intro v9 w9 hR9; have H9 := Lib.hid hR9; clear hR9)
                refine (rf_apply ao k cap P w9 (HPN.out.1.ext H9.out.ex) (by have := HN.out.2.1; omega) HPR.out).mono ?_
                rintro e w10 ⟨v10, rfl, hO10, hE10⟩
                obtain ⟨ao10, cap10, rfl, hT10, _, _⟩ := hO10.at (N := 0)
                have H10 := Lib.hid (And.intro (H9.out.ext0 hE10) hT10)
                clear hO10 hT10 hE10
                go_wp2_with (at_builtin; refine RS.step (appT k P) ao10 _ cap10 0 H10.out.1 rfl _ _ rfl rfl rfl rfl (by have := HAL.out; simp [wrS_len, fstT]; omega) H10.out.2 ?_; intro v11 w11 hR11; have H11 := Lib.hid hR11; clear hR11)
                refine (rf_first _ _ _ (by have := HJ.out.2; omega)).mono ?_
                rintro e w12 ⟨v12, rfl, hO12, hE12⟩
                obtain ⟨ao12, cap12, rfl, hT12, _, _⟩ := hO12.at (N := 0)
                have H12 := Lib.hid (And.intro (H11.out.ext0 hE12) hT12)
                clear hO12 hT12 hE12
                go_wp2_with (at_builtin; refine RS.step (fstT j 0) ao12 3 cap12 0 H12.out.1 rfl _ _ rfl rfl rfl rfl (by have := HAL.out; simp [wrS_len, fstT]; omega) H12.out.2 ?_; intro v13 w13 hR13; have H13 := Lib.hid hR13; clear hR13)
                go_ret2
                rw [HPE.out, HPT.out]
                exact ⟨_, rfl, H13.out.ex, H13.out.own⟩
        · have g : (d != 0) = true := by simpa using hz
          have HPE := Lib.hid (pubE_no HJ.out.1 (by rw [hd]; exact hz))
          rw [hd] at HPE
          clear hz hd
          go_wp2
          go_ret2
          rw [HPE.out]
          exact ⟨_, rfl, H1.out, TcOwn.nil _ _⟩
end Go.Proofs.Ytjdojckemphadaa
