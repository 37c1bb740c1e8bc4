/- The walk of the law AllocParts, whole. -/
import Derived.Test.YtgpoplnfhlfogaaAlP
import Derived.Test.YtgpoplnfhlfogaaAlQ
namespace Go.Proofs.Ytgpoplnfhlfogaa
open Go Go.RowKit Go.Shelf

theorem src_ints {w : World} {ao : Option Addr} {ks : List Int} (h : IntsAt w ao ks.length (fun i => ks.getD i 0)) : RowSrc w ao ks.length 1 (ints ks) := by
  rcases h with h | ⟨b, off, rfl, hc⟩
  · have hk : ks = [] := List.length_eq_zero_iff.1 h
    subst hk
    cases ao with
    | none => exact .inl ⟨rfl, rfl, rfl⟩
    | some ad => exact .inr ⟨ad, rfl, rfl, fun j u hj => by simp [ints] at hj, fun u hu => by simp [ints] at hu⟩
  · refine .inr ⟨_, rfl, by simp [ints], fun j u hj => ?_, fun u hu => ?_⟩
    · rw [add_at rfl]
      simp only [ints, List.getElem?_map] at hj
      cases hk : ks[j]? with
      | none => rw [hk] at hj; cases hj
      | some k =>
        rw [hk] at hj
        cases hj
        have hlt : j < ks.length := (List.getElem?_eq_some_iff.1 hk).1
        have := hc j hlt
        simpa [hk] using this
    · simp only [ints, List.mem_map] at hu
      obtain ⟨k, _, rfl⟩ := hu
      rfl
theorem TakePost.of {w w' : World} {c mb : Nat} {lo : Int} {n : Nat} {r : Int × List Int × Lns} {e : Ending} {f : Int} {x : List Int} {S1 : Lns} (h : TakePost w c mb lo n r e w') (hr : r = (f, x, S1)) :
    ∃ ao cap, e = .returned (.tuple #[.slice ao x.length cap, .int .i64 f]) ∧ Ext [c] w w' ∧ IntsAt w' ao x.length (fun i => x.getD i 0) ∧ (∀ p, ao = some p → w.heap.size ≤ p.block) ∧ ∃ mb', Pool w' c mb' lo (lo + (n : Int) - 1) S1 ∧ (mb' = mb ∨ w.heap.size ≤ mb') := by
  subst hr
  exact h

theorem takeN_len {S : Lns} {lo : Int} {n : Nat} {many : Int} {f : Int} {x : List Int} {S1 : Lns} (h : takeN S lo n many = (f, x, S1)) : x.length ≤ n := by
  have h2 : x = (takeN S lo n many).2.1 := by rw [h]
  rw [h2]
  unfold takeN
  have := those_len S lo n
  split
  · simp
  · split
    · simp
    · simp only [List.length_take]; omega

set_option maxRecDepth 100000 in
set_option maxHeartbeats 8000000 in
theorem al_parts (ao : Option Addr) (n cap : Nat) (A : Nat → ActV) (a b : Int) (w : World) (hp : Acts w ao n A) (hn : n ≤ 9223372036854775807) (hA : ∀ i, i < n → ActOk (A i)) :
    Calls Try.prog 5 #[.slice ao n cap, .int .i64 a, .int .i64 b] w fun e w' => e = .returned (.bool true) ∧ Ext [] w w' := by
  have HW := Lib.hid (al_works)
  have HF := Lib.hid (al_few ao n cap A 20 w hp hn (fun i hi => by have := (hA i hi).2.2.1; unfold maxLen at this; omega))
  have HP := Lib.hid hp
  have HA := Lib.hid hA
  clear hp hA
  have early : Hid ((fewB n A 20 = false ∨ a < 0 ∨ b < 0 ∨ 30 < a ∨ 30 < b) ∨ (fewB n A 20 = true ∧ 0 ≤ a ∧ 0 ≤ b ∧ a ≤ 30 ∧ b ≤ 30)) := by
    unfold Hid
    cases fewB n A 20 <;> simp <;> omega
  by_cases g : fewB n A 20 = true ∧ 0 ≤ a ∧ 0 ≤ b ∧ a ≤ 30 ∧ b ≤ 30
  · obtain ⟨hf, g1, g2, g3, g4⟩ := g
    obtain ⟨qa, rfl⟩ : ∃ q : Nat, a = q := ⟨a.toNat, by omega⟩
    obtain ⟨qb, rfl⟩ : ∃ q : Nat, b = q := ⟨b.toNat, by omega⟩
    rw [hf] at HF
    have HFW := Lib.hid (fewB_true hf)
    have hn20 : n ≤ 20 := by have := HFW.out.2; omega
    have i0 : ¬ ((qa : Int) < 0) := by omega
    have i1 : ¬ ((qb : Int) < 0) := by omega
    have i2 : ¬ ((30 : Int) < (qa : Int)) := by omega
    have i3 : ¬ ((30 : Int) < (qb : Int)) := by omega
    clear hf early
    go_enter Try.func5, Try.ntmps5
    go_wp2_with fail
    refine HF.out.mono ?_
    rintro e w' ⟨rfl, rfl⟩
    go_wp2_with fail
    refine (al_New 3 20 w (by omega) (by omega) (by omega)).mono ?_
    rintro e w0 ⟨rfl, hE0, hp0⟩
    obtain ⟨c, hc⟩ : ∃ c, c = w.heap.size + 1 := ⟨_, rfl⟩
    rw [← hc] at hp0 ⊢
    have H0 : Hid (PSt w w0 c w.heap.size 3 18 S0 0) := ⟨hp0, w_cnt0, hE0, by omega⟩
    clear hE0 hp0 hc
    go_wp2_with fail
    go_loopg [9] n (fun k i wr => ∃ (j mb : Nat) (S : Lns), i = .int .i64 j ∧ j + k = n ∧ PSt w wr c mb 3 18 S j)
    case atStart => exact ⟨0, _, S0, rfl, by omega, H0.out⟩
    case round =>
      obtain ⟨j, mb, S, rfl, hjk, hst⟩ := hrel
      have HS := Lib.hid hst
      clear hst
      by_cases hlt : j < n
      · obtain ⟨bb, off, rfl, k1, k2, k3, hI⟩ : ∃ b off, ao = some ⟨b, off, none⟩ ∧ wr.cell? ⟨b, off + j * 3, none⟩ = some (.int .i64 (A j).what) ∧ wr.cell? ⟨b, off + j * 3 + 1, none⟩ = some (.int .i64 (A j).many) ∧
            wr.cell? ⟨b, off + j * 3 + 2, none⟩ = some (.slice (A j).bo (A j).n (A j).cap) ∧ IntsAt wr (A j).bo (A j).n (A j).L := by
          rcases HP.out.ext HS.out.ext with h | ⟨b, off, h1, h2⟩
          · omega
          · exact ⟨b, off, h1, h2 j hlt⟩
        have HAJ := Lib.hid (HA.out j hlt)
        have HI := Lib.hid hI
        have hfew := HFW.out.1 j hlt
        clear hI
        generalize A j = x at *
        by_cases x0 : x.what = 0
        · rw [x0] at k1
          clear x0
          go_wp2_with fail
          refine (p_take HS.out (by omega) (by omega) (by omega) (by omega) x.many HAJ.out.2.1).mono ?_
          rintro e w2 ⟨⟨v, rfl⟩, mb2, S2, hst2⟩
          have H2 := Lib.hid hst2
          clear hst2
          go_wp2
          go_roundg (n - (j + 1))
          case measure => omega
          case rel => exact ⟨j + 1, mb2, S2, by go_num, by omega, by simpa using H2.out⟩
        by_cases x1 : x.what = 1
        · rw [x1] at k1
          clear x0 x1
          go_wp2_with fail
          refine (p_give HS.out (by omega) x.bo x.n x.cap x.L HI.out (by omega)).mono ?_
          rintro e w2 ⟨⟨v, rfl⟩, mb2, S2, hst2⟩
          have H2 := Lib.hid hst2
          clear hst2
          go_wp2
          go_roundg (n - (j + 1))
          case measure => omega
          case rel => exact ⟨j + 1, mb2, S2, by go_num, by omega, by simpa using H2.out⟩
        by_cases x2 : x.what = 2
        · rw [x2] at k1
          clear x0 x1 x2
          go_wp2_with fail
          refine (p_claim HS.out (by omega) x.bo x.n x.cap x.L HI.out (by omega)).mono ?_
          rintro e w2 ⟨⟨v, rfl⟩, mb2, S2, hst2⟩
          have H2 := Lib.hid hst2
          clear hst2
          go_wp2
          go_roundg (n - (j + 1))
          case measure => omega
          case rel => exact ⟨j + 1, mb2, S2, by go_num, by omega, by simpa using H2.out⟩
        · have hb0 : (x.what == 0) = false := by simpa using x0
          have hb1 : (x.what == 1) = false := by simpa using x1
          have hb2 : (x.what == 2) = false := by simpa using x2
          clear x0 x1 x2
          have H2 := Lib.hid HS.out.up
          go_wp2
          go_roundg (n - (j + 1))
          case measure => omega
          case rel => exact ⟨j + 1, mb, S, by go_num, by omega, by simpa using H2.out⟩
      · have hge : n ≤ j := by omega
        have hB1 := cntB_le HS.out.cnt (show (j : Int) ≤ 20 by omega)
        have HB1 := Lib.hid hB1
        clear hB1
        obtain ⟨f, x, S1, g, y, S2, h, z, S3, ex, ey, ez, hcase⟩ := parts_law S 3 18 qa qb
        have HX := Lib.hid (And.intro ex (And.intro ey ez))
        have HC := Lib.hid hcase
        clear ex ey ez hcase
        have hb1 : ∀ q, 0 ≤ (S1 q).2 ∧ (S1 q).2 ≤ 21 := by have := takeN_cnt (lo := 3) (n := 18) (many := (qa : Int)) HB1.out; rw [HX.out.1] at this; exact this
        have HB2 := Lib.hid hb1
        clear hb1
        go_wp2_with fail
        refine (al_Copy c mb 3 _ S wr HS.out.pool).mono ?_
        rintro e w1 ⟨d, md, rfl, hE1, hq1, hd, hmd⟩
        have hcl : c < wr.heap.size := lt_of_block HS.out.pool.1
        have hml : mb < wr.heap.size := HS.out.pool.2.lt
        have H1 := Lib.hid (And.intro hE1 hq1)
        have HD := Lib.hid (And.intro hd (And.intro hmd (And.intro hcl hml)))
        clear hE1 hq1 hd hmd hcl hml
        go_wp2_with fail
        refine (al_takeAny c mb 3 18 S qa w1 (by omega) (by omega) (by omega) (HS.out.pool.ext H1.out.1 (by simp) (by simp)) (CntB.up HB1.out (by omega)) ?_).mono ?_
        · unfold I64; omega
        rintro e w2 hw2
        obtain ⟨xo, xc, rfl, hE2, hI2, hN2, mb2, hp2, hm2⟩ := hw2.of HX.out.1
        have H2 := Lib.hid (And.intro hE2 (And.intro hI2 (And.intro hN2 hp2)))
        have HM2 := Lib.hid hm2
        clear hE2 hI2 hN2 hp2 hw2 hm2
        go_wp2_with fail
        refine (al_takeAny c mb2 3 18 S1 qb w2 (by omega) (by omega) (by omega) H2.out.2.2.2 (CntB.up HB2.out (by omega)) ?_).mono ?_
        · unfold I64; omega
        rintro e w3 hw3
        obtain ⟨yo, yc, rfl, hE3, hI3, hN3, mb3, hp3, hm3⟩ := hw3.of HX.out.2.1
        have H3 := Lib.hid (And.intro hE3 (And.intro hI3 (And.intro hN3 hp3)))
        have HM3 := Lib.hid hm3
        clear hE3 hI3 hN3 hp3 hw3 hm3
        go_wp2_with fail
        have hdc : d ∉ [c] := by have := HD.out; simp; omega
        have hmdc : md ∉ [c] := by have := HD.out; simp; omega
        have hq3 := (H1.out.2.ext H2.out.1 hdc hmdc).ext H3.out.1 hdc hmdc
        have HQ3 := Lib.hid hq3
        clear hq3
        refine (al_takeAny d md 3 18 S ((qa : Int) + qb) w3 (by omega) (by omega) (by omega) HQ3.out (CntB.up HB1.out (by omega)) ?_).mono ?_
        · unfold I64; omega
        rintro e w4 hw4
        obtain ⟨zo, zc, rfl, hE4, hI4, hN4, mb4, hp4, hm4⟩ := hw4.of (show takeN S 3 18 ((qa : Int) + qb) = (h, z, S3) from by rw [← Int.natCast_add]; exact HX.out.2.2)
        have hEw : Ext [] w w4 := by
          have hc := HS.out.hc
          have hd := HD.out.1
          have e0 := HS.out.ext.size
          exact (((HS.out.ext.trans H1.out.1).trans' H2.out.1 (fun j hj => .inr (by simp at hj; omega))).trans' H3.out.1 (fun j hj => .inr (by simp at hj; omega))).trans' hE4 (fun j hj => .inr (by simp at hj; omega))
        have hx2 : ∀ p, xo = some p → p.block ∉ [c] ∧ p.block ∉ [d] := fun p hp => by
          have h1 := H2.out.2.2.1 p hp
          have h2 := H1.out.1.size
          have h3 := HD.out
          have h4 := lt_of_block H1.out.2.1
          simp; omega
        have hy2 : ∀ p, yo = some p → p.block ∉ [d] := fun p hp => by
          have h1 := H3.out.2.2.1 p hp
          have h2 := lt_of_block H1.out.2.1
          have h3 := H2.out.1.size
          simp; omega
        have hIx : IntsAt w4 xo x.length (fun i => x.getD i 0) := (H2.out.2.1.extm H3.out.1 (fun p hp => (hx2 p hp).1)).extm hE4 (fun p hp => (hx2 p hp).2)
        have hIy : IntsAt w4 yo y.length (fun i => y.getD i 0) := H3.out.2.1.extm hE4 hy2
        have hcd : c ∉ [d] := by have := HD.out; simp; omega
        have hd1 : d < w1.heap.size := lt_of_block H1.out.2.1
        have hmd3 : mb3 ∉ [d] := by
          have h1 := HM2.out
          have h2 := HM3.out
          have h3 := HD.out
          have h4 := H2.out.1.size
          simp
          omega
        have hpp := H3.out.2.2.2.ext hE4 hcd hmd3
        have H4 := Lib.hid (And.intro hEw (And.intro hIx (And.intro hIy (And.intro hpp (And.intro hp4 hI4)))))
        have hlx := takeN_len HX.out.1
        have hly := takeN_len HX.out.2.1
        clear hdc hmdc hE4 hI4 hN4 hp4 hm4 hw4 hEw hx2 hy2 hIx hIy hcd hd1 hmd3 hpp
        rcases HC.out with ⟨rfl, rfl, rfl, hz, hS3⟩ | ⟨hf, hg, rfl⟩
        · have HZ := Lib.hid (And.intro hz hS3)
          obtain ⟨i0', hi, hz0, hz1, hz2⟩ := info_parts infoInt
          have hown0 : (w4.alloc (.cells #[] 3)).ownsRow w4.heap.size 3 1 (.slice (some ⟨w4.heap.size, 0, none⟩) 0 0) 0 [] := World.ownsRow_made w4 #[] 0 (Nat.le_refl _) (by unfold maxLen; omega) rfl
          have hs1 := src_ints (H4.out.2.1.ext ((Ext.refl [] w4).alloc (.cells #[] 3)))
          have HO := Lib.hid (And.intro hown0 hs1)
          clear hz hS3 hown0 hs1
          go_wp2_with (first
            | (go_at_call 25; refine (al_num _ _).mono ?_; rintro e w' ⟨rfl, rfl⟩)
            | (at_builtin; refine wpList_append_any rfl _ _ 43 rfl w4.heap.size 3 i0' (.int .i64 0) 1 8 Try.underlying43 hi hz0 hz1 hz2 rfl (by decide) _ _ _ rfl HO.out.1 xo x.length xc (ints x) rfl HO.out.2 (by unfold maxLen; omega) (by omega) (by simp) ?_))
          intro v1 w5 ho1 hE5 hl5
          try simp only [Nat.zero_add, List.nil_append] at ho1
          obtain ⟨ro1, rc1, rfl⟩ := slice_of_owns ho1
          have hE5' : Ext [] w4 w5 := ((Ext.refl [] w4).alloc (.cells #[] 3)).trans' hE5 (fun j hj => .inr (by simp [Value.ownBlock] at hj; omega))
          have hs2 := src_ints (H4.out.2.2.1.ext hE5')
          have HO1 := Lib.hid (And.intro ho1 (And.intro hs2 (And.intro hE5' (And.intro hl5 hE5'.size))))
          clear ho1 hE5 hl5 hs2 hE5'
          go_wp2_with (at_builtin; refine wpList_append_any rfl _ _ 43 rfl w4.heap.size 3 i0' (.int .i64 0) 1 8 Try.underlying43 hi hz0 hz1 hz2 rfl (by decide) _ _ _ rfl HO1.out.1 yo y.length yc (ints y) rfl HO1.out.2.1 (by unfold maxLen; omega) (by omega) HO1.out.2.2.2.2 ?_)
          intro v2 w6 ho2 hE6 hl6
          have hown2 : OwnI w6 w4.heap.size v2 (x ++ y) := by
            show World.ownsRow _ _ _ _ _ (x ++ y).length (ints (x ++ y))
            rw [List.length_append, show ints (x ++ y) = ints x ++ ints y by simp [ints]]
            exact ho2
          obtain ⟨ro2, rc2, rfl, hI6, _⟩ := ints_of_owns hown2
          have hE6' : Ext [] w4 w6 := HO1.out.2.2.1.trans' hE6 (fun j hj => by
            have h1 := HO1.out.1.lt
            cases hv : (Value.slice ro1 x.length rc1).ownBlock with
            | none => rw [hv] at hj; cases hj
            | some g => rw [hv] at hj; simp at hj; subst hj; exact .inr (h1 _ hv).1)
          have HO2 := Lib.hid (And.intro hI6 hE6')
          clear ho2 hE6 hl6 hown2 hI6 hE6'
          have hlz := takeN_len HX.out.2.2
          go_wp2_with fail
          rw [show x.length + y.length = z.length from by rw [HZ.out.1, List.length_append]]
          refine (rf_Ints zo ro2 z.length z.length zc rc2 (fun i => z.getD i 0) (fun i => z.getD i 0) w6 (H4.out.2.2.2.2.2.ext HO2.out.2) (by rw [HZ.out.1]; exact HO2.out.1) (by omega) (by omega)).mono ?_
          rintro e w7 ⟨rfl, hE7⟩
          rw [eqI_true (fun i _ => rfl)]
          have H7 := Lib.hid (HO2.out.2.trans hE7)
          clear hE7
          go_wp2_with fail
          refine (al_Same c d mb3 mb4 3 18 S2 S3 w7 (by omega) (by omega) (H4.out.2.2.2.1.ext H7.out (by simp) (by simp)) (H4.out.2.2.2.2.1.ext H7.out (by simp) (by simp))).mono ?_
          rintro e w8 ⟨rfl, hE8⟩
          rw [sameB_refl (fun k _ => by rw [HZ.out.2])]
          have H8 := Lib.hid (H4.out.1.trans (H7.out.trans hE8))
          clear hE8
          go_wp2_with (go_at_call 21; refine (HW.out _).mono ?_; rintro e w' ⟨rfl, hE⟩)
          go_ret
          exact ⟨rfl, H8.out.trans hE⟩
        · have hsum : ∃ t : Int, f + g = t ∧ (t != 0) = true ∧ 0 ≤ f ∧ f ≤ 230 ∧ 0 ≤ g ∧ g ≤ 230 := ⟨f + g, rfl, by simp; omega, by omega, by omega, by omega, by omega⟩
          obtain ⟨t, ht, ht0, hf0, hf1, hg0, hg1⟩ := hsum
          have hne : ((f + g) != 0) = true := by rw [ht]; exact ht0
          clear hf hg ht ht0
          go_wp2_with (first | (go_at_call 25; refine (al_num _ _).mono ?_; rintro e w' ⟨rfl, rfl⟩) | (go_at_call 21; refine (HW.out _).mono ?_; rintro e w' ⟨rfl, hE⟩))
          go_ret
          exact ⟨rfl, H4.out.1.trans hE⟩
  · clear early
    cases hf : fewB n A 20 with
    | false =>
      rw [hf] at HF
      clear g hf
      go_enter Try.func5, Try.ntmps5
      go_wp2_with fail
      refine HF.out.mono ?_
      rintro e w' ⟨rfl, rfl⟩
      go_wp2_with (go_at_call 21; refine (HW.out _).mono ?_; rintro e w' ⟨rfl, hE⟩)
      go_ret
      exact ⟨rfl, hE⟩
    | true =>
      rw [hf] at HF g
      by_cases ha : a < 0
      · clear g hf
        go_enter Try.func5, Try.ntmps5
        go_wp2_with fail
        refine HF.out.mono ?_
        rintro e w' ⟨rfl, rfl⟩
        go_wp2_with (go_at_call 21; refine (HW.out _).mono ?_; rintro e w' ⟨rfl, hE⟩)
        go_ret
        exact ⟨rfl, hE⟩
      by_cases hb : b < 0
      · clear g hf
        go_enter Try.func5, Try.ntmps5
        go_wp2_with fail
        refine HF.out.mono ?_
        rintro e w' ⟨rfl, rfl⟩
        go_wp2_with (go_at_call 21; refine (HW.out _).mono ?_; rintro e w' ⟨rfl, hE⟩)
        go_ret
        exact ⟨rfl, hE⟩
      by_cases ha2 : 30 < a
      · clear g hf
        go_enter Try.func5, Try.ntmps5
        go_wp2_with fail
        refine HF.out.mono ?_
        rintro e w' ⟨rfl, rfl⟩
        go_wp2_with (go_at_call 21; refine (HW.out _).mono ?_; rintro e w' ⟨rfl, hE⟩)
        go_ret
        exact ⟨rfl, hE⟩
      by_cases hb2 : 30 < b
      · clear g hf
        go_enter Try.func5, Try.ntmps5
        go_wp2_with fail
        refine HF.out.mono ?_
        rintro e w' ⟨rfl, rfl⟩
        go_wp2_with (go_at_call 21; refine (HW.out _).mono ?_; rintro e w' ⟨rfl, hE⟩)
        go_ret
        exact ⟨rfl, hE⟩
      · exact absurd ⟨rfl, by omega, by omega, by omega, by omega⟩ g
end Go.Proofs.Ytgpoplnfhlfogaa
