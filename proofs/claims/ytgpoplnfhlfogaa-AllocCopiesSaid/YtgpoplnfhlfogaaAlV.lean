/- The document's pool: turn, Give, Claim. -/
import Derived.Test.YtgpoplnfhlfogaaAlU
namespace Go.Proofs.Ytgpoplnfhlfogaa
open Go Go.RowKit Go.Shelf

theorem results_ca {P : Program} {fn : Func} {p q : Tmp} {ty : TypeId} (h : fn.results = #[.cell p ty, .tmp q]) (tmps : Array Value) (w : World) (g : Nat) (t : TypeId) (cs : Array Value) (fr : Nat × Nat) (d : TypeDesc) (u : Value)
    (hp : tmps.getD p undef = .pointer (some ⟨g, 0, none⟩)) (hg : w.heap[g]? = some (.cells cs t fr)) (hq : tmps.getD q undef = u)
    (hu : P.underlying ty = some d) (hd : (match d with | .struct _ | .array _ _ => true | _ => false) = true) (hi : (P.info? ty).map (·.size) = some cs.size) :
    (results fn tmps).run P w = .ok (.tuple #[.agg cs, u]) w := by
  have hp' : tmps[p]?.getD undef = .pointer (some ⟨g, 0, none⟩) := by simpa using hp
  have hq' : tmps[q]?.getD undef = u := by simpa using hq
  simp [results, h, hp', hq', asAddr, run_loadVar_row w g t ty cs fr d hg hu hd hi]
/-- what the document's turn answers -/
def RTurn (w : World) (lo : Int) (n : Nat) (r : Int × Lns) (e : Ending) (w' : World) : Prop :=
  ∃ ao cap, e = .returned (.tuple #[.agg #[.int .i64 lo, .slice ao n cap], .int .i64 r.1]) ∧ Ext [] w w' ∧ RPl w' ao lo n r.2
theorem has_iff {lo : Int} {n : Nat} {k : Int} : hasB lo (lo + (n : Int) - 1) k = true ↔ lo ≤ k ∧ k < lo + n := by
  unfold hasB; simp; omega

set_option maxRecDepth 100000 in
set_option maxHeartbeats 4000000 in
theorem rf_turn (lo : Int) (ao : Option Addr) (n cap : Nat) (S : Lns) (t : Bool) (er : Int) (lp : Option Addr) (m lc : Nat) (L : Nat → Int) (w : World) (h0 : -1000000000 ≤ lo) (h1 : lo + n ≤ 1000000000) (hn : n ≤ 1000000) (hR : RPl w ao lo n S) (hB : ∀ q, 0 ≤ (S q).2 ∧ (S q).2 ≤ 1000000)
    (hI : IntsAt w lp m L) (hm : m ≤ 9223372036854775807) :
    Calls Try.prog 111 #[.agg #[.int .i64 lo, .slice ao n cap], .slice lp m lc, .bool t, .int .i64 er] w (RTurn w lo n (turnN S lo n t er (lst L m))) := by
  have HR := Lib.hid hR
  have HB := Lib.hid hB
  have HI := Lib.hid hI
  obtain ⟨hb0, hb1, hs0⟩ := al2_heap (w := w) #[.int .i64 lo, .slice ao n cap] #[.int .i64 0, .slice none 0 0] 56 56
  have hE0 := ((Ext.refl [] w).alloc (.cells #[.int .i64 lo, .slice ao n cap] 56)).alloc (.cells #[.int .i64 0, .slice none 0 0] 56)
  generalize hw0 : (w.alloc (.cells #[.int .i64 lo, .slice ao n cap] 56)).alloc (.cells #[.int .i64 0, .slice none 0 0] 56) = w0 at *
  have H0 := Lib.hid (And.intro hb0 (And.intro hb1 (And.intro hE0 hs0)))
  have hz0 : w.heap.size + 1 < w0.heap.size := by omega
  clear hR hB hI hb0 hb1 hE0 hs0
  have fin : Hid (∀ (W : World) (ao' : Option Addr) (cap' : Nat), W.heap[w.heap.size + 1]? = some (.cells #[.int .i64 0, .slice none 0 0] 56 (0, 0)) →
      ((W.setCell ⟨w.heap.size + 1, 0, none⟩ (.int .i64 lo)).setCell ⟨w.heap.size + 1, 1, none⟩ (.slice ao' n cap')).heap[w.heap.size + 1]? = some (.cells #[.int .i64 lo, .slice ao' n cap'] 56 (0, 0))) := fun W ao' cap' h => pair_set1 (pair_set0 h)
  go_enter Try.func111, Try.ntmps111
  go_wp2
  go_loopg [10] m (fun k i wr => ∃ j : Nat, i = .int .i64 j ∧ j + k = m ∧ Ext [] w0 wr ∧ ∀ i, i < j → hasB lo (lo + (n : Int) - 1) (L i) = true)
  case atStart => exact ⟨0, rfl, by omega, Ext.refl _ _, fun i hi => absurd hi (Nat.not_lt_zero _)⟩
  case round =>
    obtain ⟨j, rfl, hjk, hE, hall⟩ := hrel
    have b0 := hE.at H0.out.1 (by simp)
    have b1 := hE.at H0.out.2.1 (by simp)
    have k0 := cell_of (j := 0) (v := .int .i64 lo) b0 rfl
    have k1 := cell_of (j := 1) (v := .slice ao n cap) b0 rfl
    have HE := Lib.hid (And.intro hE (And.intro b0 (And.intro b1 hall)))
    have z1 : w.heap.size + 1 < wr.heap.size := lt_of_block b1
    clear hE hall
    by_cases hlt : j < m
    · obtain ⟨b, off, rfl, e1⟩ : ∃ b off, lp = some ⟨b, off, none⟩ ∧ wr.cell? ⟨b, off + j, none⟩ = some (.int .i64 (L j)) := by
        rcases HI.out.ext (H0.out.2.2.1.trans HE.out.1) with h | ⟨b, off, h1, h2⟩
        · omega
        · exact ⟨b, off, h1, h2 j hlt⟩
      have HH : Hid (∀ W, Ext [] wr W → Calls Try.prog 80 #[.agg #[.int .i64 lo, .slice ao n cap], .int .i64 (L j)] W fun e w' => e = .returned (.bool (hasB lo (lo + (n : Int) - 1) (L j))) ∧ Ext [] wr w') := fun W hE => (rf_Has lo ao n cap (L j) W h0 h1).mono fun e w' ⟨a, b⟩ => ⟨a, hE.trans b⟩
      have hi0 : (0 : Int) ≤ (j : Int) := by omega
      have hi1 : (j : Int) < (m : Int) := by omega
      obtain ⟨z, hz⟩ : ∃ z, z = L j := ⟨_, rfl⟩
      rw [← hz] at e1 HH
      have HZ := Lib.hid hz
      clear hz
      have m0 := cell_of (j := 0) (v := .int .i64 0) b1 rfl
      have m1 := cell_of (j := 1) (v := .slice none 0 0) b1 rfl
      have g0 := free_of b1 0
      have g1 := free_of b1 1
      clear b0 b1
      cases hh : hasB lo (lo + (n : Int) - 1) z with
      | true =>
        rw [hh] at HH
        have HHH := Lib.hid hh
        clear hh
        go_wp2
        go_region_with (go_at_call 80; refine (HH.out _ ?_).mono ?_; exact Ext.drew (Ext.refl _ _); rintro e w5 ⟨rfl, hE5⟩; have q0 := hE5.cell k0 (by simp); have q1 := hE5.cell k1 (by simp); have q2 := hE5.cell e1 (by simp); have H5 := Lib.hid hE5; clear hE5)
        all_goals go_wp2
        all_goals
          go_roundg (m - (j + 1))
          case measure => omega
          case rel =>
            refine ⟨j + 1, by go_num, by omega, HE.out.1.trans H5.out, fun i hi => ?_⟩
            rcases Nat.lt_succ_iff_lt_or_eq.1 hi with h | h
            · exact HE.out.2.2.2 i h
            · rw [h, ← HZ.out]; exact HHH.out
      | false =>
        rw [hh] at HH
        have HV : Hid (turnN S lo n t er (lst L m) = (4, S)) := by
          unfold Hid turnN
          rw [if_neg (fun hc => by have := has_iff.2 (hc z ((mem_lst L m z).2 ⟨j, hlt, HZ.out.symm⟩)); rw [hh] at this; cases this)]
        clear hh
        go_wp2
        go_region_with (go_at_call 80; refine (HH.out _ ?_).mono ?_; exact Ext.drew (Ext.refl _ _); rintro e w5 ⟨rfl, hE5⟩; have q0 := hE5.cell k0 (by simp); have q1 := hE5.cell k1 (by simp); have q2 := hE5.cell e1 (by simp); have q3 := hE5.cell m0 (by simp); have q4 := hE5.cell m1 (by simp); have q5 := hE5.frozen g0 z1 (by simp); have q6 := hE5.frozen g1 z1 (by simp); have H5 := Lib.hid hE5; clear hE5)
        all_goals go_wp2
        all_goals
          rw [HV.out]
          refine bodyPost_ret (results_ca Try.results111 _ _ (w.heap.size + 1) _ _ _ _ (.int .i64 4) rfl (fin.out w5 ao cap (H5.out.at HE.out.2.2.1 (by simp))) rfl Try.underlying56 rfl (by kernel_rfl)) rfl ?_
          have hEf : Ext [] w ((w5.setCell ⟨w.heap.size + 1, 0, none⟩ (.int .i64 lo)).setCell ⟨w.heap.size + 1, 1, none⟩ (.slice ao n cap)) := ((((H0.out.2.2.1.trans HE.out.1).trans H5.out).setCell (.inr (by simp)) _).setCell (.inr (by simp)) _)
          exact ⟨ao, cap, rfl, hEf, HR.out.ext0 hEf⟩
    · have hge : m ≤ j := by omega
      have HALL : Hid (∀ k ∈ lst L m, lo ≤ k ∧ k < lo + n) := fun k hk => by
        obtain ⟨i, hi, rfl⟩ := (mem_lst L m k).1 hk
        exact has_iff.1 (HE.out.2.2.2 i (by omega))
      have hb2 : (wr.alloc (.cells #[.int .i64 lo, .slice ao n cap] 56)).heap[wr.heap.size]? = some (.cells #[.int .i64 lo, .slice ao n cap] 56 (0, 0)) := World.alloc_heap_new _ _
      have hE2 : Ext [] wr (wr.alloc (.cells #[.int .i64 lo, .slice ao n cap] 56)) := (Ext.refl _ _).alloc _
      go_wp2
      clear k0 k1 b0 b1
      generalize hw2 : wr.alloc (.cells #[.int .i64 lo, .slice ao n cap] 56) = w2 at *
      obtain ⟨B2, hB2⟩ : ∃ B2, B2 = wr.heap.size := ⟨_, rfl⟩
      rw [← hB2] at hb2 z1 ⊢
      have HE2 := Lib.hid (And.intro (((H0.out.2.2.1.trans HE.out.1).trans hE2)) (And.intro hb2 (And.intro (hE2.at HE.out.2.1 (by simp)) (hE2.at HE.out.2.2.1 (by simp)))))
      have hzb : w.heap.size + 1 < B2 := z1
      clear hb2 hE2 hw2 hB2 z1
      have HV : Hid (turnN S lo n t er (lst L m) = match turnS t (lst L m) S with | some S' => (0, S') | none => (er, S)) := by
        unfold Hid turnN
        rw [if_pos HALL.out]
        cases turnS t (lst L m) S <;> rfl
      go_loopg [12] m (fun k i wq => ∃ (j : Nat) (S1 : Lns) (ao' : Option Addr) (cap' : Nat), i = .int .i64 j ∧ j + k = m ∧ turnS t (lst L j) S = some S1 ∧ wq.heap[B2]? = some (.cells #[.int .i64 lo, .slice ao' n cap'] 56 (0, 0)) ∧ RPl wq ao' lo n S1 ∧ (n = 0 ∨ ∀ p, ao' = some p → p.block ≠ B2 ∧ p.block ≠ w.heap.size + 1) ∧ Ext [B2] w2 wq)
      case atStart =>
        refine ⟨0, S, ao, cap, rfl, by omega, rfl, HE2.out.2.1, HR.out.ext0 HE2.out.1, ?_, Ext.refl _ _⟩
        rcases HR.out with h | ⟨b, off, rfl, h2⟩
        · exact .inl h
        · by_cases hn0 : n = 0
          · exact .inl hn0
          · refine .inr (fun p hp => ?_)
            cases hp
            have := World.block_lt_of_cell? _ _ (h2 0 (by omega)).1
            simp at this ⊢
            omega
      case round =>
        obtain ⟨i, S1, ao', cap', rfl, hik, hS1, hbq, hRq, hne, hEq⟩ := hrel
        have b0 := hEq.at HE2.out.2.2.1 (show w.heap.size ∉ [B2] from by simp; omega)
        have b1 := hEq.at HE2.out.2.2.2 (show w.heap.size + 1 ∉ [B2] from by simp; omega)
        have k0 := cell_of (j := 0) (v := .int .i64 lo) b0 rfl
        have k1 := cell_of (j := 1) (v := .slice ao n cap) b0 rfl
        have m0 := cell_of (j := 0) (v := .int .i64 0) b1 rfl
        have m1 := cell_of (j := 1) (v := .slice none 0 0) b1 rfl
        have g0 := free_of b1 0
        have g1 := free_of b1 1
        have o0 := cell_of (j := 0) (v := .int .i64 lo) hbq rfl
        have o1 := cell_of (j := 1) (v := .slice ao' n cap') hbq rfl
        have p0 := free_of hbq 0
        have p1 := free_of hbq 1
        have hzq : B2 < wr.heap.size := lt_of_block hbq
        have HQ := Lib.hid (And.intro hS1 (And.intro hbq (And.intro hRq (And.intro hne (And.intro hEq b1)))))
        clear b0 b1 hS1 hbq hRq hne hEq
        by_cases hlt2 : i < m
        · have hEw : Ext [] w wr := HE2.out.1.trans' HQ.out.2.2.2.2.1 (fun p hp => .inr (by simp at hp; omega))
          obtain ⟨b, off, rfl, e1⟩ : ∃ b off, lp = some ⟨b, off, none⟩ ∧ wr.cell? ⟨b, off + i, none⟩ = some (.int .i64 (L i)) := by
            rcases HI.out.ext hEw with h | ⟨b, off, h1, h2⟩
            · omega
            · exact ⟨b, off, h1, h2 i hlt2⟩
          obtain ⟨kk, hkk, hkn⟩ : ∃ kk : Nat, L i = lo + (kk : Int) ∧ kk < n := by
            have := HALL.out (L i) ((mem_lst L m _).2 ⟨i, hlt2, rfl⟩)
            exact ⟨(L i - lo).toNat, by omega, by omega⟩
          obtain ⟨b3, off3, rfl, e3⟩ : ∃ b off, ao' = some ⟨b, off, none⟩ ∧ wr.cell? ⟨b, off + kk * 2, none⟩ = some (.bool (S1 (lo + (kk : Int))).1) := by
            rcases HQ.out.2.2.1 with h | ⟨b, off, h1, h2⟩
            · omega
            · exact ⟨b, off, h1, (h2 kk hkn).1⟩
          rw [hkk] at e1
          have HKK := Lib.hid hkk
          have hi0 : (0 : Int) ≤ (i : Int) := by omega
          have hi1 : (i : Int) < (m : Int) := by omega
          have hq0 : (0 : Int) ≤ (kk : Int) := by omega
          have hq1 : (kk : Int) < (n : Int) := by omega
          have hwz : IntKind.i64.wrap (lo + (kk : Int) - lo) = (kk : Int) := by
            rw [show lo + (kk : Int) - lo = (kk : Int) from by omega]
            exact IntWalk.i64_in _ (by omega)
          have HEW := Lib.hid hEw
          clear hkk hEw
          by_cases hst : (S1 (lo + (kk : Int))).1 = t
          · have HV2 : Hid (turnN S lo n t er (lst L m) = (er, S)) := by
              unfold Hid
              rw [HV.out, turnS_stop HQ.out.1 hlt2 (by rw [HKK.out]; exact hst)]
            rw [hst] at e3
            have hbt : (t == t) = true := by cases t <;> rfl
            clear hst
            go_wp2
            go_quiet (fail)
            go_wp2
            rw [HV2.out]
            refine bodyPost_ret (results_ca Try.results111 _ _ (w.heap.size + 1) _ _ _ _ (.int .i64 er) rfl (fin.out (wr.drewN nq) ao cap HQ.out.2.2.2.2.2) rfl Try.underlying56 rfl (by kernel_rfl)) rfl ?_
            have hEf : Ext [] w (((wr.drewN nq).setCell ⟨w.heap.size + 1, 0, none⟩ (.int .i64 lo)).setCell ⟨w.heap.size + 1, 1, none⟩ (.slice ao n cap)) := (((Ext.drewN HEW.out _).setCell (.inr (by simp)) _).setCell (.inr (by simp)) _)
            exact ⟨ao, cap, rfl, hEf, HR.out.ext0 hEf⟩
          · have hbt : ((S1 (lo + (kk : Int))).1 == t) = false := by simpa using hst
            obtain ⟨tt, htt⟩ : ∃ tt, tt = (S1 (lo + (kk : Int))).1 := ⟨_, rfl⟩
            rw [← htt] at e3 hbt
            have HST := Lib.hid hst
            clear htt hst
            have HWI : Hid (∀ W, Ext [] wr W → Calls Try.prog 110 #[.agg #[.int .i64 lo, .slice (some ⟨b3, off3, none⟩) n cap'], .int .i64 (lo + (kk : Int)), .bool t] W fun e w' => ∃ ao2 cap2, e = .returned (.agg #[.int .i64 lo, .slice ao2 n cap2]) ∧ Ext [] wr w' ∧ RPl w' ao2 lo n (setL S1 t (lo + (kk : Int))) ∧ ∀ p, ao2 = some p → wr.heap.size ≤ p.block) := by
              intro W hE
              refine (rf_with lo _ n cap' S1 (lo + (kk : Int)) t W h0 h1 hn (HQ.out.2.2.1.ext0 hE) (by omega) (by omega) ?_).mono ?_
              · intro q
                have h5 := turnS_cnt HQ.out.1 q
                have h6 := HB.out q
                omega
              · rintro e w' ⟨ao2, cap2, rfl, hE2, hR2, hf2⟩
                exact ⟨ao2, cap2, rfl, hE.trans hE2, hR2, fun p hp => Nat.le_trans hE.size (hf2 p hp)⟩
            go_wp2
            go_quiet (fail)
            go_wp2
            go_region_with (go_at_call 110; refine (HWI.out _ ?_).mono ?_; exact Ext.drew (Ext.drewN (Ext.refl _ _) _); rintro e w5 ⟨ao2, cap2, rfl, hE5, hR5, hf5⟩; have q0 := hE5.cell o0 (by simp); have q1 := hE5.cell o1 (by simp); have q2 := hE5.cell e1 (by simp); have r0 := hE5.frozen p0 hzq (by simp); have r1 := hE5.frozen p1 hzq (by simp); have H5 := Lib.hid (And.intro hE5 (And.intro hR5 hf5)); clear hE5 hR5 hf5)
            all_goals go_wp2
            all_goals
              go_roundg (m - (i + 1))
              case measure => omega
              case rel =>
                have hsz := HQ.out.2.2.2.2.1.size
                have hs2 : w.heap.size + 1 < wr.heap.size := lt_of_block HQ.out.2.2.2.2.2
                refine ⟨i + 1, setL S1 t (lo + (kk : Int)), ao2, cap2, by go_num, by omega, ?_, pair_set1 (pair_set0 (H5.out.1.at HQ.out.2.1 (by simp))), ?_, .inr (fun p hp => by have := H5.out.2.2 p hp; omega), ((HQ.out.2.2.2.2.1.trans H5.out.1.wide).setCell (.inl (by simp)) _).setCell (.inl (by simp)) _⟩
                · rw [← HKK.out]
                  exact turnS_step HQ.out.1 (by rw [HKK.out]; exact HST.out)
                · exact H5.out.2.1.ext (((Ext.refl [B2] w5).setCell (.inl (by simp)) _).setCell (.inl (by simp)) _) (fun p hp => by have := H5.out.2.2 p hp; simp; omega)
        · have him : i = m := by omega
          have HV2 : Hid (turnN S lo n t er (lst L m) = (0, S1)) := by
            unfold Hid
            rw [HV.out, ← him, HQ.out.1]
          clear him
          go_wp2
          rw [HV2.out]
          refine bodyPost_ret (results_ca Try.results111 _ _ (w.heap.size + 1) _ _ _ _ (.int .i64 0) rfl (fin.out wr ao' cap' HQ.out.2.2.2.2.2) rfl Try.underlying56 rfl (by kernel_rfl)) rfl ?_
          have hE3 : Ext [w.heap.size + 1] wr ((wr.setCell ⟨w.heap.size + 1, 0, none⟩ (.int .i64 lo)).setCell ⟨w.heap.size + 1, 1, none⟩ (.slice ao' n cap')) := (((Ext.refl [w.heap.size + 1] wr).setCell (.inl (by simp)) _).setCell (.inl (by simp)) _)
          have hEw : Ext [] w wr := HE2.out.1.trans' HQ.out.2.2.2.2.1 (fun p hp => .inr (by simp at hp; omega))
          refine ⟨ao', cap', rfl, hEw.trans' hE3 (fun p hp => .inr (by simp at hp; omega)), ?_⟩
          rcases HQ.out.2.2.2.1 with hn0 | hne
          · exact .inl hn0
          · exact HQ.out.2.2.1.ext hE3 (fun p hp => by have := hne p hp; simp; omega)
end Go.Proofs.Ytgpoplnfhlfogaa
