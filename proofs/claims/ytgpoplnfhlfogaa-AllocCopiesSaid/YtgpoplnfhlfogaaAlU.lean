/- The document's pool: Take. -/
import Derived.Test.YtgpoplnfhlfogaaAlT
import Derived.Test.YtgpoplnfhlfogaaAlP
import Derived.Deep.RegionWith
namespace Go.Proofs.Ytgpoplnfhlfogaa
open Go Go.RowKit Go.Shelf

theorem allL_snoc (S : Lns) (t : Bool) (ks : List Int) (k : Int) (h : k ∉ ks) : setL (allL S t ks) t k = allL S t (ks ++ [k]) := by
  funext j
  unfold setL allL
  by_cases hj : j = k
  · subst hj; simp [h]
  · simp [hj]
theorem nodup_takeU {ks : List Int} (h : ks.Nodup) {j : Nat} (hj : j < ks.length) : ks.getD j 0 ∉ ks.take j := by
  intro hm
  have h1 : ks.take (j + 1) = ks.take j ++ [ks.getD j 0] := by
    rw [List.take_succ_eq_append_getElem hj]
    simp [hj]
  have h2 : (ks.take (j + 1)).Nodup := h.sublist (List.take_sublist _ _)
  rw [h1, List.nodup_append] at h2
  exact h2.2.2 _ hm _ (List.mem_singleton.2 rfl) rfl
theorem take_getDU {ks : List Int} {j : Nat} (hj : j < ks.length) : ks.take (j + 1) = ks.take j ++ [ks.getD j 0] := by
  rw [List.take_succ_eq_append_getElem hj]
  simp [hj]
/-- what the document's Take answers -/
def RTake (w : World) (lo : Int) (n : Nat) (r : Int × List Int × Lns) (e : Ending) (w' : World) : Prop :=
  ∃ ao cap fo fc, e = .returned (.tuple #[.agg #[.int .i64 lo, .slice ao n cap], .slice fo r.2.1.length fc, .int .i64 r.1]) ∧ Ext [] w w' ∧ RPl w' ao lo n r.2.2 ∧ IntsAt w' fo r.2.1.length (fun i => r.2.1.getD i 0)
theorem results_act {P : Program} {fn : Func} {p q r : Tmp} {ty : TypeId} (h : fn.results = #[.cell p ty, .tmp q, .tmp r]) (tmps : Array Value) (w : World) (g : Nat) (t : TypeId) (cs : Array Value) (fr : Nat × Nat) (d : TypeDesc) (u v : Value)
    (hp : tmps.getD p undef = .pointer (some ⟨g, 0, none⟩)) (hg : w.heap[g]? = some (.cells cs t fr)) (hq : tmps.getD q undef = u) (hr : tmps.getD r undef = v)
    (hu : P.underlying ty = some d) (hd : (match d with | .struct _ | .array _ _ => true | _ => false) = true) (hi : (P.info? ty).map (·.size) = some cs.size) :
    (results fn tmps).run P w = .ok (.tuple #[.agg cs, u, v]) w := by
  have hp' : tmps[p]?.getD undef = .pointer (some ⟨g, 0, none⟩) := by simpa using hp
  have hq' : tmps[q]?.getD undef = u := by simpa using hq
  have hr' : tmps[r]?.getD undef = v := by simpa using hr
  simp [results, h, hp', hq', hr', asAddr, run_loadVar_row w g t ty cs fr d hg hu hd hi]

set_option maxRecDepth 100000 in
set_option maxHeartbeats 4000000 in
theorem rf_Take (lo : Int) (ao : Option Addr) (n cap : Nat) (S : Lns) (many : Int) (w : World) (h0 : -1000000000 ≤ lo) (h1 : lo + n ≤ 1000000000) (hn : n ≤ 1000000) (hR : RPl w ao lo n S) (hB : ∀ q, 0 ≤ (S q).2 ∧ (S q).2 ≤ 1000000) (hm : I64 many) :
    Calls Try.prog 77 #[.agg #[.int .i64 lo, .slice ao n cap], .int .i64 many] w (RTake w lo n (takeN S lo n many)) := by
  have HR := Lib.hid hR
  have HB := Lib.hid hB
  have HM := Lib.hid hm
  obtain ⟨hb0, hb1, hs0⟩ := al2_heap (w := w) #[.int .i64 lo, .slice ao n cap] #[.int .i64 0, .slice none 0 0] 56 56
  have hE0 := ((Ext.refl [] w).alloc (.cells #[.int .i64 lo, .slice ao n cap] 56)).alloc (.cells #[.int .i64 0, .slice none 0 0] 56)
  generalize hw0 : (w.alloc (.cells #[.int .i64 lo, .slice ao n cap] 56)).alloc (.cells #[.int .i64 0, .slice none 0 0] 56) = w0 at *
  have H0 := Lib.hid (And.intro hb0 (And.intro hb1 (And.intro hE0 hs0)))
  have k0 := cell_of (j := 0) (v := .int .i64 lo) hb0 rfl
  have k1 := cell_of (j := 1) (v := .slice ao n cap) hb0 rfl
  have k2 := cell_of (j := 0) (v := .int .i64 0) hb1 rfl
  have k3 := cell_of (j := 1) (v := .slice none 0 0) hb1 rfl
  have f2 := free_of hb1 0
  have f3 := free_of hb1 1
  clear hR hB hm hb0 hb1 hE0 hs0
  have fin : Hid (∀ (W : World) (ao' : Option Addr) (cap' : Nat), W.heap[w.heap.size + 1]? = some (.cells #[.int .i64 0, .slice none 0 0] 56 (0, 0)) →
      ((W.setCell ⟨w.heap.size + 1, 0, none⟩ (.int .i64 lo)).setCell ⟨w.heap.size + 1, 1, none⟩ (.slice ao' n cap')).heap[w.heap.size + 1]? = some (.cells #[.int .i64 lo, .slice ao' n cap'] 56 (0, 0))) := fun W ao' cap' h => pair_set1 (pair_set0 h)
  by_cases hneg : many < 0
  · have HV : Hid (takeN S lo n many = (2, [], S)) := by unfold Hid takeN; rw [if_pos hneg]
    go_enter Try.func77, Try.ntmps77
    go_wp2
    rw [HV.out]
    refine bodyPost_ret (results_act Try.results77 _ _ _ _ _ _ _ _ _ rfl (fin.out _ ao cap H0.out.2.1) rfl rfl Try.underlying56 rfl (by kernel_rfl)) rfl ?_
    have hE := ((H0.out.2.2.1.setCell (p := ⟨w.heap.size + 1, 0, none⟩) (.inr (by simp)) (.int .i64 lo)).setCell (p := ⟨w.heap.size + 1, 1, none⟩) (.inr (by simp)) (.slice ao n cap))
    exact ⟨ao, cap, none, 0, rfl, hE, HR.out.ext0 hE, .inl rfl⟩
  · obtain ⟨q, rfl⟩ : ∃ q : Nat, many = q := ⟨many.toNat, by omega⟩
    have hq : q ≤ 9223372036854775807 := by have := HM.out.2; omega
    go_enter Try.func77, Try.ntmps77
    go_wp2_with fail
    refine (rf_Those lo ao n cap S false w0 h0 h1 hn (HR.out.ext0 H0.out.2.2.1)).mono ?_
    rintro e w1 ⟨v1, rfl, hown, hE1⟩
    have hcap := hown
    obtain ⟨fo, fc, rfl, hI, hbig⟩ := ints_of_owns hown
    have hfc : (thoseL S false lo n).length ≤ fc := by
      rcases hcap.2 with ⟨h, _⟩ | ⟨g, cap, cur, h, _, _, h2, _⟩
      · injection h with _ h3 _; omega
      · injection h with _ _ h3; omega
    have hle := thoseL_le S false lo n
    have HI := Lib.hid (And.intro hI (And.intro hbig (And.intro hE1 hcap)))
    have k0' := hE1.cell k0 (by simp)
    have k1' := hE1.cell k1 (by simp)
    have k2' := hE1.cell k2 (by simp)
    have k3' := hE1.cell k3 (by simp)
    have f2' := hE1.frozen f2 (show w.heap.size + 1 < w0.heap.size from lt_of_block H0.out.2.1) (by simp)
    have f3' := hE1.frozen f3 (show w.heap.size + 1 < w0.heap.size from lt_of_block H0.out.2.1) (by simp)
    clear hown hcap hI hbig hE1 k0 k1 k2 k3 f2 f3
    by_cases hfull : ((thoseL S false lo n).length : Int) < q
    · have HV : Hid (takeN S lo n q = (230, [], S)) := by unfold Hid takeN; rw [if_neg (by omega), if_pos hfull]
      go_wp2
      rw [HV.out]
      refine bodyPost_ret (results_act Try.results77 _ _ _ _ _ _ _ _ _ rfl (fin.out _ ao cap (HI.out.2.2.1.at H0.out.2.1 (by simp))) rfl rfl Try.underlying56 rfl (by kernel_rfl)) rfl ?_
      have hE := (((H0.out.2.2.1.trans HI.out.2.2.1).setCell (p := ⟨w.heap.size + 1, 0, none⟩) (.inr (by simp)) (.int .i64 lo)).setCell (p := ⟨w.heap.size + 1, 1, none⟩) (.inr (by simp)) (.slice ao n cap))
      exact ⟨ao, cap, none, 0, rfl, hE, HR.out.ext0 hE, .inl rfl⟩
    · have HV : Hid (takeN S lo n q = (0, (thoseL S false lo n).take q, allL S true ((thoseL S false lo n).take q))) := by
        unfold Hid takeN; rw [if_neg (by omega), if_neg hfull]; rfl
      obtain ⟨F, hF⟩ : ∃ F, F = thoseL S false lo n := ⟨_, rfl⟩
      have hmemF : ∀ k ∈ F, lo ≤ k ∧ k < lo + n ∧ (S k).1 = false := fun k hk => by rw [hF] at hk; exact (mem_thoseL S false lo n k).1 hk
      have hndF : F.Nodup := by rw [hF]; exact nodup_thoseL S false lo n
      rw [← hF] at HI hfc hle hfull HV
      rw [← hF]
      have HFM := Lib.hid (And.intro hmemF hndF)
      have hfb : decide (F.length < q) = false := by simp; omega
      clear hmemF hndF hF
      go_wp2
      go_loopg [8] q (fun k i wr => ∃ (j : Nat) (ao' : Option Addr) (cap' : Nat), i = .int .i64 j ∧ j + k = q ∧ wr.heap[w.heap.size]? = some (.cells #[.int .i64 lo, .slice ao' n cap'] 56 (0, 0)) ∧ RPl wr ao' lo n (allL S true (F.take j)) ∧ (n = 0 ∨ ∀ p, ao' = some p → p.block ≠ w.heap.size ∧ p.block ≠ w.heap.size + 1) ∧ Ext [w.heap.size] w1 wr)
      case atStart => 
        refine ⟨0, ao, cap, rfl, by omega, HI.out.2.2.1.at H0.out.1 (by simp), ?_, ?_, Ext.refl _ _⟩
        · rw [show allL S true (F.take 0) = S from by funext k; simp [allL]]
          exact HR.out.ext0 (H0.out.2.2.1.trans HI.out.2.2.1)
        · rcases HR.out with h | ⟨b, off, rfl, h2⟩
          · exact .inl h
          · by_cases hn0 : n = 0
            · exact .inl hn0
            · refine .inr (fun p hp => ?_)
              cases hp
              have := World.block_lt_of_cell? _ _ (h2 0 (by omega)).1
              simp at this ⊢
              omega
      case round =>
        obtain ⟨j, ao', cap', rfl, hjk, hb, hRj, hne, hE⟩ := hrel
        have HL := Lib.hid (And.intro hb (And.intro hRj (And.intro hne hE)))
        have m0 := cell_of (j := 0) (v := .int .i64 lo) hb rfl
        have m1 := cell_of (j := 1) (v := .slice ao' n cap') hb rfl
        have g0 := free_of hb 0
        have g1 := free_of hb 1
        have hw1s : w.heap.size + 2 ≤ w1.heap.size := by have := HI.out.2.2.1.size; have := H0.out.2.2.2; omega
        have z0 : w.heap.size < wr.heap.size := lt_of_block hb
        clear hb hRj hne hE k0' k1'
        by_cases hlt : j < q
        · have hjF : j < F.length := by omega
          obtain ⟨b, off, rfl, e1⟩ : ∃ b off, fo = some ⟨b, off, none⟩ ∧ wr.cell? ⟨b, off + j, none⟩ = some (.int .i64 (F.getD j 0)) := by
            rcases HI.out.1 with h | ⟨b, off, h1, h2⟩
            · omega
            · have h3 := HI.out.2.1 _ h1
              have h4 := H0.out.2.2.2
              exact ⟨b, off, h1, HL.out.2.2.2.cell (h2 j hjF) (show b ∉ [w.heap.size] from by simp at h3 ⊢; omega)⟩
          have hzF : F.getD j 0 ∈ F := by simp [hjF]
          have hz := HFM.out.1 _ hzF
          have hnt := nodup_takeU HFM.out.2 hjF
          have htk := take_getDU hjF
          obtain ⟨z, hzz⟩ : ∃ z, z = F.getD j 0 := ⟨_, rfl⟩
          rw [← hzz] at e1 hz hnt htk
          have HWI : Hid (∀ W, Ext [] wr W → Calls Try.prog 110 #[.agg #[.int .i64 lo, .slice ao' n cap'], .int .i64 z, .bool true] W fun e w' => ∃ ao2 cap2, e = .returned (.agg #[.int .i64 lo, .slice ao2 n cap2]) ∧ Ext [] wr w' ∧ RPl w' ao2 lo n (allL S true (F.take (j + 1))) ∧ ∀ p, ao2 = some p → wr.heap.size ≤ p.block) := by
            intro W hE
            refine (rf_with lo ao' n cap' (allL S true (F.take j)) z true W h0 h1 hn (HL.out.2.1.ext0 hE) hz.1 hz.2.1 (CntB.up (cntB_all HB.out) (by omega))).mono ?_
            rintro e w' ⟨ao2, cap2, rfl, hE2, hR2, hf2⟩
            rw [allL_snoc _ _ _ _ hnt, ← htk] at hR2
            exact ⟨ao2, cap2, rfl, hE.trans hE2, hR2, fun p hp => Nat.le_trans hE.size (hf2 p hp)⟩
          have hi0 : (0 : Int) ≤ (j : Int) := by omega
          have hi1 : (j : Int) < (F.length : Int) := by omega
          clear hz hnt htk hzz hzF
          go_wp2
          go_region_with (go_at_call 110; refine (HWI.out _ ?_).mono ?_; exact Ext.drew (Ext.refl _ _); rintro e w5 ⟨ao2, cap2, rfl, hE5, hR5, hf5⟩; have q0 := hE5.cell m0 (by simp); have q1 := hE5.cell m1 (by simp); have r0 := hE5.frozen g0 z0 (by simp); have r1 := hE5.frozen g1 z0 (by simp); have H5 := Lib.hid (And.intro hE5 (And.intro hR5 hf5)); clear hE5 hR5 hf5)
          all_goals go_wp2
          all_goals
            go_roundg (q - (j + 1))
            case measure => omega
            case rel =>
              have hsz := HL.out.2.2.2.size
              refine ⟨j + 1, ao2, cap2, by go_num, by omega, pair_set1 (pair_set0 (H5.out.1.at HL.out.1 (by simp))), ?_, .inr (fun p hp => by have := H5.out.2.2 p hp; omega), ((HL.out.2.2.2.trans H5.out.1.wide).setCell (.inl (by simp)) _).setCell (.inl (by simp)) _⟩
              exact H5.out.2.1.ext (((Ext.refl [w.heap.size] w5).setCell (.inl (by simp)) _).setCell (.inl (by simp)) _) (fun p hp => by have := H5.out.2.2 p hp; simp; omega)
        · have hge : q ≤ j := by omega
          have hjq : j = q := by omega
          have HJ := Lib.hid hjq
          clear hjq
          have e2 := HL.out.2.2.2.cell k2' (show w.heap.size + 1 ∉ [w.heap.size] from by simp)
          have e3 := HL.out.2.2.2.cell k3' (show w.heap.size + 1 ∉ [w.heap.size] from by simp)
          have e4 := HL.out.2.2.2.frozen f2' (show w.heap.size + 1 < w1.heap.size from by omega) (show w.heap.size + 1 ∉ [w.heap.size] from by simp)
          have e5 := HL.out.2.2.2.frozen f3' (show w.heap.size + 1 < w1.heap.size from by omega) (show w.heap.size + 1 ∉ [w.heap.size] from by simp)
          have hq0 : (0 : Int) ≤ (q : Int) := by omega
          have hq1 : (q : Int) ≤ (fc : Int) := by omega
          have hq2 : q ≤ fc := by omega
          clear k2' k3' f2' f3'
          go_wp2
          go_region
          all_goals go_wp2
          have hlq : (F.take q).length = q := by rw [List.length_take]; omega
          have hE2 : Ext [w.heap.size + 1] wr (((wr.setCell ⟨w.heap.size + 1, 0, none⟩ (.int .i64 lo)).setCell ⟨w.heap.size + 1, 1, none⟩ (.slice ao' n cap')).drew) := (((Ext.refl [w.heap.size + 1] wr).setCell (.inl (by simp)) _).setCell (.inl (by simp)) _).drew
          have hEw : Ext [] w wr := (H0.out.2.2.1.trans HI.out.2.2.1).trans' HL.out.2.2.2 (fun p hp => .inr (by simp at hp; omega))
          rw [HV.out]
          refine bodyPost_ret (results_act Try.results77 _ _ (w.heap.size + 1) _ _ _ _ (.slice fo q fc) (.int .i64 0) rfl (fin.out wr ao' cap' (HL.out.2.2.2.at (HI.out.2.2.1.at H0.out.2.1 (by simp)) (by simp))) rfl rfl Try.underlying56 rfl (by kernel_rfl)) rfl ?_
          have hR9 := HL.out.2.1
          rw [HJ.out] at hR9
          refine ⟨ao', cap', fo, fc, by rw [hlq], hEw.trans' hE2 (fun p hp => .inr (by simp at hp; omega)), ?_, ?_⟩
          · rcases HL.out.2.2.1 with hn0 | hne
            · exact .inl hn0
            · exact hR9.ext hE2 (fun p hp => by have := hne p hp; simp; omega)
          · show IntsAt _ fo (F.take q).length (fun i => (F.take q).getD i 0)
            rw [hlq]
            have h6 : IntsAt wr fo F.length (fun i => F.getD i 0) := HI.out.1.extm HL.out.2.2.2 (fun p hp => by have := HI.out.2.1 p hp; have := H0.out.2.2.2; simp; omega)
            have h7 := h6.extm hE2 (fun p hp => by have := HI.out.2.1 p hp; have := H0.out.2.2.2; simp; omega)
            rcases h7 with h8 | ⟨b, off, h8, h9⟩
            · exact .inl (by omega)
            · refine .inr ⟨b, off, h8, fun i hi => ?_⟩
              have := h9 i (by omega)
              rw [this]
              simp [List.getElem?_take, hi]
end Go.Proofs.Ytgpoplnfhlfogaa
