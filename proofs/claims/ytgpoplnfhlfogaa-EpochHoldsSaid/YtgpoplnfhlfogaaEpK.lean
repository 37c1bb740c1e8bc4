/- EpochHolds: the loop's arms, second half (printed by wip/mkEh.py). -/
import Derived.Test.YtgpoplnfhlfogaaEpJ
import Derived.Deep.LoopGhost
import Derived.Deep.DeepCutAuto
import Derived.Deep.Cut
namespace Go.Proofs.Ytgpoplnfhlfogaa
open Go Go.RowKit Go.Shelf
attribute [local go_sem] Oper.semAt_some

set_option maxRecDepth 100000 in
set_option maxHeartbeats 8000000 in
theorem eh_advY (ao : Option Addr) (n cap : Nat) (w : World) (r0 c m b c3 c4 : Nat) (A : Nat → Int × Int) (gk j : Nat) (now : Int) (l : Ents) (Ds : List Nat) {u1 u6 u7 u8 u9 u10 u11 u12 u13 u14 u15 u16 u17 u18 u19 u20 u21 u22 u23 u24 u25 u26 u27 u28 u29 u30 u31 u32 u33 u34 u35 u36 u37 u38 u39 u40 u41 u42 u43 u44 u45 u46 u47 u48 u49 u50 u51 u52 u53 u54 u55 u56 u57 u58 u59 u60 u61 u62 u63 u64 u65 u66 u67 u68 u69 u70 u71 u72 u73 u74 u75 u76 u77 u78 u79 u80 u81 u82 u83 u84 u85 u86 u87 u88 u89 u90 u91 u92 u93 u94 u95 u96 u97 u98 u99 u100 u101 u102 u103 u104 u105 u106 u107 u108 u109 u110 u111 u112 u113 u114 u115 u116 u117 u118 u119 u120 u121 u122 u123 u124 u125 u126 u127 u128 u129 u130 u131 u132 u133 u134 u135 u136 u137 u138 u139 u140 u141 u142 u143 u144 : Value} (wr : World)
    (HP : Hid (Pairs w ao n A)) (hst : ESt w wr r0 c m b c3 c4 j now l) (hmk : MarkOk w wr Ds) (hj : j + gk = n) (hlt : j < n) (hn80 : n ≤ 80) (hw : (A j).1 = 2) (hz : advOk now l = true)
    (J0 : Nat → Act → World → Prop) (K0 : Act → World → Prop) (hJ0 : ∀ k a' w', EhI ao n cap w r0 c m b c3 c4 k a' w' → J0 k a' w') (hK0 : ∀ a' w', Handed J0 gk a' w' → K0 a' w') (Q0 : Exit → Act → World → Prop) :
    Code.wp Try.prog ehBody (Exit.then K0 (NoPanic Q0)) { tmps := #[.slice ao n cap, u1, .pointer (some ⟨r0, 0, none⟩), .pointer (some ⟨c3, 0, none⟩), .pointer (some ⟨c4, 0, none⟩), .int .i64 j, u6, u7, u8, u9, u10, u11, u12, u13, u14, u15, u16, u17, u18, u19, u20, u21, u22, u23, u24, u25, u26, u27, u28, u29, u30, u31, u32, u33, u34, u35, u36, u37, u38, u39, u40, u41, u42, u43, u44, u45, u46, u47, u48, u49, u50, u51, u52, u53, u54, u55, u56, u57, u58, u59, u60, u61, u62, u63, u64, u65, u66, u67, u68, u69, u70, u71, u72, u73, u74, u75, u76, u77, u78, u79, u80, u81, u82, u83, u84, u85, u86, u87, u88, u89, u90, u91, u92, u93, u94, u95, u96, u97, u98, u99, u100, u101, u102, u103, u104, u105, u106, u107, u108, u109, u110, u111, u112, u113, u114, u115, u116, u117, u118, u119, u120, u121, u122, u123, u124, u125, u126, u127, u128, u129, u130, u131, u132, u133, u134, u135, u136, u137, u138, u139, u140, u141, u142, u143, u144], defers := (Ds.map fun D => { target := .collected D, args := #[] }) } wr := by
  conv => arg 2; whnf
  have HST := Lib.hid (And.intro hst hmk)
  have k3 := cell_of (j := 0) (v := .pointer (some ⟨c, 0, none⟩)) hst.k3 rfl
  have k4 := cell_of (j := 0) (v := .map (some b)) hst.k4 rfl
  clear hst hmk
  obtain ⟨g, off, rfl, x0, x1⟩ : ∃ g off, ao = some ⟨g, off, none⟩ ∧ wr.cell? ⟨g, off + j * 2, none⟩ = some (.int .i64 (A j).1) ∧ wr.cell? ⟨g, off + j * 2 + 1, none⟩ = some (.int .i64 (A j).2) := by
    rcases HP.out.ext HST.out.1.ext with h | ⟨g, off, h1, h2⟩
    · omega
    · exact ⟨g, off, h1, h2 j hlt⟩
  have hgw : g < w.heap.size := by
    rcases HP.out with h | ⟨g', off', h1, h2⟩
    · omega
    · cases h1
      exact World.block_lt_of_cell? _ _ (h2 j hlt).1
  have hi0 : (0 : Int) ≤ (j : Int) := by omega
  have hi1 : (j : Int) < (n : Int) := by omega
  have hwj : wrap64 ((j : Int) + 1) = (j : Int) + 1 := IntWalk.wrap64_in _ (by omega)
  have HJ := Lib.hid (And.intro hj (And.intro hlt hn80))
  have HG := Lib.hid hgw
  clear hj hlt hn80 hgw
  generalize A j = x at *
  obtain ⟨what, t⟩ := x
  dsimp only at *
  subst hw
  go_wp2_with fail
  refine (ep_now c m now l wr HST.out.1.clk).mono ?_
  rintro e w' ⟨rfl, rfl⟩
  have hv := HST.out.1.ok.vals
  have hn0 := HST.out.1.num.1
  have hn1 : now ≤ 80 := by have := HST.out.1.num.2.1; have := HJ.out; omega
  have hwn0 : wrap64 (now + 1) = now + 1 := IntWalk.wrap64_in _ (by omega)
  have hle := run_lenMap (P := Try.prog) 42 3 3 3 Try.underlying42 HST.out.1.mp
  go_wp2_with fail
  refine (ep_adv_yes c m now l wr HST.out.1.clk hv hn0 (by omega) hz).mono ?_
  rintro e w2 ⟨rfl, hE1, hc1⟩
  have H5 : Hid (ESt w w2 r0 c m b c3 c4 (j + 1) (now + 1) l ∧ MarkOk w w2 Ds) :=
    ⟨HST.out.1.clock hE1 hc1 (by omega) (HST.out.1.ok.adv hz), HST.out.2.ext hE1 (fun x hx => by simp at hx; subst hx; exact .inr (.inl ⟨_, _, _, HST.out.1.clk.1⟩))⟩
  clear hE1 hc1 hle k3 k4 x0 x1
  have k3 := cell_of (j := 0) (v := .pointer (some ⟨c, 0, none⟩)) H5.out.1.k3 rfl
  have k4 := cell_of (j := 0) (v := .map (some b)) H5.out.1.k4 rfl
  have hle := run_lenMap (P := Try.prog) 42 3 3 3 Try.underlying42 H5.out.1.mp
  rcases Bool.eq_false_or_eq_true ((l.length : Int) == 0) with hl0 | hl0
  all_goals
    go_wp2_with fail
    refine (num14 _ _).mono ?_
    rintro e w' ⟨rfl, rfl⟩
    go_wp2_with fail
    refine (ep_now c m (now + 1) l w2 H5.out.1.clk).mono ?_
    rintro e w' ⟨rfl, rfl⟩
    have hq1 : (now + 1 == now + 1) = true := by simp
    go_upto_region 23 with fail
    clear hle hq1
    have hz5 : c4 < w2.heap.size := lt_of_block H5.out.1.k4
    go_upto_region 24 with fail
    obtain ⟨q, hq⟩ : ∃ q, w2.heap.size = q := ⟨_, rfl⟩
    obtain ⟨W1, hW1⟩ : ∃ W1, w2.alloc (.cells #[.int .i64 0] 3) = W1 := ⟨_, rfl⟩
    have H6 : Hid (ESt w W1 r0 c m b c3 c4 (j + 1) (now + 1) l ∧ MarkOk w W1 Ds ∧ W1.heap[q]? = some (.cells #[.int .i64 0] 3 (0, 0)) ∧ c4 < q) := by
      have hE : Ext [] w2 W1 := by rw [← hW1]; exact (Ext.refl _ _).alloc _
      exact ⟨H5.out.1.ext1 hE, H5.out.2.ext0 hE, by rw [← hW1, ← hq]; exact World.alloc_heap_new _ _, by omega⟩
    try rw [hW1]
    try rw [hq]
    clear hW1 hq hz5
    try clear k3 k4
    have k3 := cell_of (j := 0) (v := .pointer (some ⟨c, 0, none⟩)) H6.out.1.k3 rfl
    go_wp2_with fail
    refine (ep_Pinned c m (now + 1) l W1 H6.out.1.clk).mono ?_
    rintro e W2 ⟨B1, b1, rfl, hE2, _, _, _⟩
    have H7 : Hid (ESt w W2 r0 c m b c3 c4 (j + 1) (now + 1) l ∧ MarkOk w W2 Ds ∧ W2.heap[q]? = some (.cells #[.int .i64 0] 3 (0, 0)) ∧ c4 < q) :=
      ⟨H6.out.1.ext1 hE2, H6.out.2.1.ext0 hE2, hE2.at H6.out.2.2.1 (by simp), H6.out.2.2.2⟩
    clear hE2 H6 k3
    have k3 := cell_of (j := 0) (v := .pointer (some ⟨c, 0, none⟩)) H7.out.1.k3 rfl
    have heq := eqfn2 96 #[.pointer (some ⟨B1, 0, none⟩)] W2
    go_wp2_with fail
    refine (ep_Pinned c m (now + 1) l W2 H7.out.1.clk).mono ?_
    rintro e W3 ⟨B, bq, rfl, hE3, hP, hB, hbq⟩
    have hq2 := lt_of_block H7.out.2.2.1
    have H8 : Hid (ESt w W3 r0 c m b c3 c4 (j + 1) (now + 1) l ∧ MarkOk w W3 Ds ∧ W3.heap[q]? = some (.cells #[.int .i64 0] 3 (0, 0)) ∧ c4 < q ∧ PKB B bq l W3 ∧ q < B ∧ q < bq) :=
      ⟨H7.out.1.ext1 hE3, H7.out.2.1.ext0 hE3, hE3.at H7.out.2.2.1 (by simp), H7.out.2.2.2, hP, by omega, by omega⟩
    clear hE3 hP hB hbq hq2 H7 k3 heq
    have hlen : l.length ≤ 80 := by have := H8.out.1.num.2.2; have := HJ.out; omega
    have hnow : 0 ≤ (now + 1) ∧ (now + 1) ≤ 80 := ⟨H8.out.1.num.1, by have := H8.out.1.num.2.1; have := HJ.out; omega⟩
    have hwn : wrap64 ((now + 1) - 1) = (now + 1) - 1 := IntWalk.wrap64_in _ (by omega)
    have HL := Lib.hid (And.intro hlen hnow)
    clear hlen hnow
    go_wp2
    refine wpIn_wide.1 (wp_range (gf := 96) (lb := #[.pointer (some ⟨B, 0, none⟩)]) rfl (fun args w => enters_of Try.func96 (by kernel_rfl) rfl args w)
      (pinned_seq B bq l (by have := HL.out; omega) H8.out.1.ok.wf) (fun pre x h => by obtain ⟨k, _, _, rfl⟩ := okP_last h; rfl) [q]
      (CntGo W3 q 3 1000) (fun _ _ => False) ?_ ?_ ?_ ?_ ?_ ?_ ?_ ?_)
    · exact fun mm pre => CntGo.steady (Nat.le_refl _) mm pre
    · exact fun c => Steady.const _ _
    · rintro mm pre W' ⟨_, hE, _⟩
      have h := H8.out.2.2.2.2
      exact ⟨hE.cell h.1.1 (by simp; omega), h.1.2.ext hE (by simp; omega)⟩
    · intro x hx
      simp at hx
      subst hx
      exact lt_of_block H8.out.2.2.1
    · exact CntGo.start H8.out.2.2.1
    · rintro l2 mm pre x W' hl2 hi hok
      obtain ⟨k, hk, hpre, rfl⟩ := okP_last hok
      obtain ⟨a, hla, haa⟩ := sortK_look H8.out.1.ok H8.out.1.mp.nodup hk
      obtain ⟨p, hp⟩ : ∃ p, (sortK l).getD k 0 = p := ⟨_, rfl⟩
      have hpl : pre.length = k := by rw [hpre, encP_len _ _ (by omega)]
      rw [hp] at hla ⊢
      have HI := Lib.hid (And.intro hi (And.intro hpl hk))
      clear hi hpl hk hok hpre hp hl2
      unfold pairV
      rw [hla]
      simp only [Option.getD_some]
      intro K hK
      gi_wp2
      refine hK _ _ (Ext.refl [] _) ?_
      intro W4 hC
      clear hK K
      have hi4 := CntGo.steady (Nat.le_refl _) mm pre _ _ HI.out.1 hC
      obtain ⟨rfl, hE4, hb4, _⟩ := id hi4
      have hst4 := H8.out.1.extk hE4 (fun x hx => by simp at hx; have := H8.out.2.2.2.1; omega)
      rw [HI.out.2.1] at hb4
      have k3 := cell_of (j := 0) (v := .pointer (some ⟨c, 0, none⟩)) hst4.k3 rfl
      have k4 := cell_of (j := 0) (v := .map (some b)) hst4.k4 rfl
      have q0 := cell_of (j := 0) (v := .int .i64 k) hb4 rfl
      have q1 := free_of hb4 0
      have hlk := run_look_ok (P := Try.prog) 42 3 3 (.int .i64 0) Try.underlying42 Try.underlying3 (zeroI W4) hst4.mp p
      rw [hla] at hlk
      simp only [Option.getD_some, Option.isSome_some] at hlk
      have HNow := Lib.hid (ep_now c m (now + 1) l W4 hst4.clk)
      have hwk : wrap64 ((k : Int) + 1) = (k : Int) + 1 := IntWalk.wrap64_in _ (by have := HI.out.2.2; have := HL.out; omega)
      have H9 := Lib.hid (And.intro hi4 hE4)
      clear hi4 hE4 hb4 hst4 hC hla
      rcases haa with haa | haa
      · have haa := haa.symm
        subst haa
        have hne : ((now + 1) == (now + 1)) = true := beq_self_eq_true _
        have hne2 : ((now + 1) != (now + 1)) = false := bne_self_eq_false _
        gi_wp2
        refine ⟨trivial, rfl, (CallsIn.inRound l2 (callsIn_wide.2 HNow.out)).mono ?_⟩
        rintro e w' ⟨rfl, rfl⟩
        gi_wp2
        refine ⟨trivial, ?_⟩
        gi_wp2
        obtain ⟨m', h1, h2⟩ := H9.out.1.step (Wx := W') (x := #[.int .i64 p, .int .i64 (now + 1)]) HI.out.2.1 (by have := HI.out.2.2; have := HL.out; omega)
        exact ⟨(Ext.refl _ _).setCell (.inl (by simp)) _, m', h1, by first | exact h2 | (rw [hwk]; exact h2)⟩
      · have hne : ((now + 1) - 1 == (now + 1)) = false := by simp; omega
        subst haa
        gi_wp2
        refine ⟨trivial, rfl, (CallsIn.inRound l2 (callsIn_wide.2 HNow.out)).mono ?_⟩
        rintro e w' ⟨rfl, rfl⟩
        gi_wp2
        refine ⟨trivial, rfl, (CallsIn.inRound l2 (callsIn_wide.2 HNow.out)).mono ?_⟩
        rintro e w' ⟨rfl, rfl⟩
        gi_wp2
        obtain ⟨m', h1, h2⟩ := H9.out.1.step (Wx := W') (x := #[.int .i64 p, .int .i64 ((now + 1) - 1)]) HI.out.2.1 (by have := HI.out.2.2; have := HL.out; omega)
        exact ⟨(Ext.refl _ _).setCell (.inl (by simp)) _, m', h1, by first | exact h2 | (rw [hwk]; exact h2)⟩
    · intro D mm xs W' hD hx hi hdD
      obtain ⟨rfl, hE, hb, _⟩ := hi
      rw [show xs = _ from hx, encP_len _ _ (Nat.le_refl _)] at hb
      have hm8 := H8.out.2.1.ext hE (fun x hx => by simp at hx; subst hx; exact .inr (.inl ⟨_, _, _, H8.out.2.2.1⟩))
      have H10 : Hid (ESt w W' r0 c m b c3 c4 (j + 1) (now + 1) l ∧ MarkOk w W' (D :: Ds)) :=
        ⟨H8.out.1.extk hE (fun x hx => by simp at hx; have := H8.out.2.2.2.1; omega), hm8.cons hdD (fun h => by have := lt_of_block (H8.out.2.1.at' _ h).1; omega) (by have := H8.out.1.ext.size; omega)⟩
      have k4 := cell_of (j := 0) (v := .map (some b)) H10.out.1.k4 rfl
      have q0 := cell_of (j := 0) (v := .int .i64 l.length) hb rfl
      have hle := run_lenMap (P := Try.prog) 42 3 3 3 Try.underlying42 H10.out.1.mp
      clear hE hb hm8 hdD hD hx
      go_wp2
      refine Handed.intro (n - (j + 1)) ?measure ?_
      rotate_left
      go_step
      unfold EhI
      (repeat apply Exists.intro)
      refine ⟨?rel, rfl⟩
      case measure => have := HJ.out; omega
      case rel => exact ⟨j + 1, _, l, D :: Ds, by first | (rw [hwj]; rfl) | rfl, by have := HJ.out; omega, rfl, H10.out.1, H10.out.2⟩
    · intro D c' W' hD h
      exact h.elim

set_option maxRecDepth 100000 in
set_option maxHeartbeats 8000000 in
theorem eh_advN (ao : Option Addr) (n cap : Nat) (w : World) (r0 c m b c3 c4 : Nat) (A : Nat → Int × Int) (gk j : Nat) (now : Int) (l : Ents) (Ds : List Nat) {u1 u6 u7 u8 u9 u10 u11 u12 u13 u14 u15 u16 u17 u18 u19 u20 u21 u22 u23 u24 u25 u26 u27 u28 u29 u30 u31 u32 u33 u34 u35 u36 u37 u38 u39 u40 u41 u42 u43 u44 u45 u46 u47 u48 u49 u50 u51 u52 u53 u54 u55 u56 u57 u58 u59 u60 u61 u62 u63 u64 u65 u66 u67 u68 u69 u70 u71 u72 u73 u74 u75 u76 u77 u78 u79 u80 u81 u82 u83 u84 u85 u86 u87 u88 u89 u90 u91 u92 u93 u94 u95 u96 u97 u98 u99 u100 u101 u102 u103 u104 u105 u106 u107 u108 u109 u110 u111 u112 u113 u114 u115 u116 u117 u118 u119 u120 u121 u122 u123 u124 u125 u126 u127 u128 u129 u130 u131 u132 u133 u134 u135 u136 u137 u138 u139 u140 u141 u142 u143 u144 : Value} (wr : World)
    (HP : Hid (Pairs w ao n A)) (hst : ESt w wr r0 c m b c3 c4 j now l) (hmk : MarkOk w wr Ds) (hj : j + gk = n) (hlt : j < n) (hn80 : n ≤ 80) (hw : (A j).1 = 2) (hz : advOk now l = false)
    (J0 : Nat → Act → World → Prop) (K0 : Act → World → Prop) (hJ0 : ∀ k a' w', EhI ao n cap w r0 c m b c3 c4 k a' w' → J0 k a' w') (hK0 : ∀ a' w', Handed J0 gk a' w' → K0 a' w') (Q0 : Exit → Act → World → Prop) :
    Code.wp Try.prog ehBody (Exit.then K0 (NoPanic Q0)) { tmps := #[.slice ao n cap, u1, .pointer (some ⟨r0, 0, none⟩), .pointer (some ⟨c3, 0, none⟩), .pointer (some ⟨c4, 0, none⟩), .int .i64 j, u6, u7, u8, u9, u10, u11, u12, u13, u14, u15, u16, u17, u18, u19, u20, u21, u22, u23, u24, u25, u26, u27, u28, u29, u30, u31, u32, u33, u34, u35, u36, u37, u38, u39, u40, u41, u42, u43, u44, u45, u46, u47, u48, u49, u50, u51, u52, u53, u54, u55, u56, u57, u58, u59, u60, u61, u62, u63, u64, u65, u66, u67, u68, u69, u70, u71, u72, u73, u74, u75, u76, u77, u78, u79, u80, u81, u82, u83, u84, u85, u86, u87, u88, u89, u90, u91, u92, u93, u94, u95, u96, u97, u98, u99, u100, u101, u102, u103, u104, u105, u106, u107, u108, u109, u110, u111, u112, u113, u114, u115, u116, u117, u118, u119, u120, u121, u122, u123, u124, u125, u126, u127, u128, u129, u130, u131, u132, u133, u134, u135, u136, u137, u138, u139, u140, u141, u142, u143, u144], defers := (Ds.map fun D => { target := .collected D, args := #[] }) } wr := by
  conv => arg 2; whnf
  have HST := Lib.hid (And.intro hst hmk)
  have k3 := cell_of (j := 0) (v := .pointer (some ⟨c, 0, none⟩)) hst.k3 rfl
  have k4 := cell_of (j := 0) (v := .map (some b)) hst.k4 rfl
  clear hst hmk
  obtain ⟨g, off, rfl, x0, x1⟩ : ∃ g off, ao = some ⟨g, off, none⟩ ∧ wr.cell? ⟨g, off + j * 2, none⟩ = some (.int .i64 (A j).1) ∧ wr.cell? ⟨g, off + j * 2 + 1, none⟩ = some (.int .i64 (A j).2) := by
    rcases HP.out.ext HST.out.1.ext with h | ⟨g, off, h1, h2⟩
    · omega
    · exact ⟨g, off, h1, h2 j hlt⟩
  have hgw : g < w.heap.size := by
    rcases HP.out with h | ⟨g', off', h1, h2⟩
    · omega
    · cases h1
      exact World.block_lt_of_cell? _ _ (h2 j hlt).1
  have hi0 : (0 : Int) ≤ (j : Int) := by omega
  have hi1 : (j : Int) < (n : Int) := by omega
  have hwj : wrap64 ((j : Int) + 1) = (j : Int) + 1 := IntWalk.wrap64_in _ (by omega)
  have HJ := Lib.hid (And.intro hj (And.intro hlt hn80))
  have HG := Lib.hid hgw
  clear hj hlt hn80 hgw
  generalize A j = x at *
  obtain ⟨what, t⟩ := x
  dsimp only at *
  subst hw
  go_wp2_with fail
  refine (ep_now c m now l wr HST.out.1.clk).mono ?_
  rintro e w' ⟨rfl, rfl⟩
  have hv := HST.out.1.ok.vals
  have hn0 := HST.out.1.num.1
  have hn1 : now ≤ 80 := by have := HST.out.1.num.2.1; have := HJ.out; omega
  have hwn0 : wrap64 (now + 1) = now + 1 := IntWalk.wrap64_in _ (by omega)
  have hle := run_lenMap (P := Try.prog) 42 3 3 3 Try.underlying42 HST.out.1.mp
  go_wp2_with fail
  refine (ep_adv_no c m now l wr HST.out.1.clk hv hn0 (by omega) hz).mono ?_
  rintro e w2 ⟨rfl, hE1, hc1⟩
  have H5 : Hid (ESt w w2 r0 c m b c3 c4 (j + 1) now l ∧ MarkOk w w2 Ds) :=
    ⟨HST.out.1.clock hE1 hc1 (by omega) HST.out.1.ok, HST.out.2.ext hE1 (fun x hx => by simp at hx; subst hx; exact .inr (.inl ⟨_, _, _, HST.out.1.clk.1⟩))⟩
  clear hE1 hc1 hle k3 k4 x0 x1
  have k3 := cell_of (j := 0) (v := .pointer (some ⟨c, 0, none⟩)) H5.out.1.k3 rfl
  have k4 := cell_of (j := 0) (v := .map (some b)) H5.out.1.k4 rfl
  have hle := run_lenMap (P := Try.prog) 42 3 3 3 Try.underlying42 H5.out.1.mp
  have hl0 : ((l.length : Int) == 0) = false := by
    cases l with
    | nil => rw [adv_nil (by omega)] at hz; cases hz
    | cons p l => simp; omega
  go_wp2_with fail
  refine (num14 _ _).mono ?_
  rintro e w' ⟨rfl, rfl⟩
  go_wp2_with fail
  refine (ep_now c m now l w2 H5.out.1.clk).mono ?_
  rintro e w' ⟨rfl, rfl⟩
  have hq1 : (now == now + 1) = false := by simp; omega
  go_upto_region 23 with fail
  clear hle hq1
  have hz5 : c4 < w2.heap.size := lt_of_block H5.out.1.k4
  go_upto_region 24 with fail
  obtain ⟨q, hq⟩ : ∃ q, w2.heap.size = q := ⟨_, rfl⟩
  obtain ⟨W1, hW1⟩ : ∃ W1, w2.alloc (.cells #[.int .i64 0] 3) = W1 := ⟨_, rfl⟩
  have H6 : Hid (ESt w W1 r0 c m b c3 c4 (j + 1) now l ∧ MarkOk w W1 Ds ∧ W1.heap[q]? = some (.cells #[.int .i64 0] 3 (0, 0)) ∧ c4 < q) := by
    have hE : Ext [] w2 W1 := by rw [← hW1]; exact (Ext.refl _ _).alloc _
    exact ⟨H5.out.1.ext1 hE, H5.out.2.ext0 hE, by rw [← hW1, ← hq]; exact World.alloc_heap_new _ _, by omega⟩
  try rw [hW1]
  try rw [hq]
  clear hW1 hq hz5
  try clear k3 k4
  have k3 := cell_of (j := 0) (v := .pointer (some ⟨c, 0, none⟩)) H6.out.1.k3 rfl
  go_wp2_with fail
  refine (ep_Pinned c m now l W1 H6.out.1.clk).mono ?_
  rintro e W2 ⟨B1, b1, rfl, hE2, _, _, _⟩
  have H7 : Hid (ESt w W2 r0 c m b c3 c4 (j + 1) now l ∧ MarkOk w W2 Ds ∧ W2.heap[q]? = some (.cells #[.int .i64 0] 3 (0, 0)) ∧ c4 < q) :=
    ⟨H6.out.1.ext1 hE2, H6.out.2.1.ext0 hE2, hE2.at H6.out.2.2.1 (by simp), H6.out.2.2.2⟩
  clear hE2 H6 k3
  have k3 := cell_of (j := 0) (v := .pointer (some ⟨c, 0, none⟩)) H7.out.1.k3 rfl
  have heq := eqfn2 96 #[.pointer (some ⟨B1, 0, none⟩)] W2
  go_wp2_with fail
  refine (ep_Pinned c m now l W2 H7.out.1.clk).mono ?_
  rintro e W3 ⟨B, bq, rfl, hE3, hP, hB, hbq⟩
  have hq2 := lt_of_block H7.out.2.2.1
  have H8 : Hid (ESt w W3 r0 c m b c3 c4 (j + 1) now l ∧ MarkOk w W3 Ds ∧ W3.heap[q]? = some (.cells #[.int .i64 0] 3 (0, 0)) ∧ c4 < q ∧ PKB B bq l W3 ∧ q < B ∧ q < bq) :=
    ⟨H7.out.1.ext1 hE3, H7.out.2.1.ext0 hE3, hE3.at H7.out.2.2.1 (by simp), H7.out.2.2.2, hP, by omega, by omega⟩
  clear hE3 hP hB hbq hq2 H7 k3 heq
  have hlen : l.length ≤ 80 := by have := H8.out.1.num.2.2; have := HJ.out; omega
  have hnow : 0 ≤ now ∧ now ≤ 80 := ⟨H8.out.1.num.1, by have := H8.out.1.num.2.1; have := HJ.out; omega⟩
  have hwn : wrap64 (now - 1) = now - 1 := IntWalk.wrap64_in _ (by omega)
  have HL := Lib.hid (And.intro hlen hnow)
  clear hlen hnow
  go_wp2
  refine wpIn_wide.1 (wp_range (gf := 96) (lb := #[.pointer (some ⟨B, 0, none⟩)]) rfl (fun args w => enters_of Try.func96 (by kernel_rfl) rfl args w)
    (pinned_seq B bq l (by have := HL.out; omega) H8.out.1.ok.wf) (fun pre x h => by obtain ⟨k, _, _, rfl⟩ := okP_last h; rfl) [q]
    (CntGo W3 q 3 1000) (fun _ _ => False) ?_ ?_ ?_ ?_ ?_ ?_ ?_ ?_)
  · exact fun mm pre => CntGo.steady (Nat.le_refl _) mm pre
  · exact fun c => Steady.const _ _
  · rintro mm pre W' ⟨_, hE, _⟩
    have h := H8.out.2.2.2.2
    exact ⟨hE.cell h.1.1 (by simp; omega), h.1.2.ext hE (by simp; omega)⟩
  · intro x hx
    simp at hx
    subst hx
    exact lt_of_block H8.out.2.2.1
  · exact CntGo.start H8.out.2.2.1
  · rintro l2 mm pre x W' hl2 hi hok
    obtain ⟨k, hk, hpre, rfl⟩ := okP_last hok
    obtain ⟨a, hla, haa⟩ := sortK_look H8.out.1.ok H8.out.1.mp.nodup hk
    obtain ⟨p, hp⟩ : ∃ p, (sortK l).getD k 0 = p := ⟨_, rfl⟩
    have hpl : pre.length = k := by rw [hpre, encP_len _ _ (by omega)]
    rw [hp] at hla ⊢
    have HI := Lib.hid (And.intro hi (And.intro hpl hk))
    clear hi hpl hk hok hpre hp hl2
    unfold pairV
    rw [hla]
    simp only [Option.getD_some]
    intro K hK
    gi_wp2
    refine hK _ _ (Ext.refl [] _) ?_
    intro W4 hC
    clear hK K
    have hi4 := CntGo.steady (Nat.le_refl _) mm pre _ _ HI.out.1 hC
    obtain ⟨rfl, hE4, hb4, _⟩ := id hi4
    have hst4 := H8.out.1.extk hE4 (fun x hx => by simp at hx; have := H8.out.2.2.2.1; omega)
    rw [HI.out.2.1] at hb4
    have k3 := cell_of (j := 0) (v := .pointer (some ⟨c, 0, none⟩)) hst4.k3 rfl
    have k4 := cell_of (j := 0) (v := .map (some b)) hst4.k4 rfl
    have q0 := cell_of (j := 0) (v := .int .i64 k) hb4 rfl
    have q1 := free_of hb4 0
    have hlk := run_look_ok (P := Try.prog) 42 3 3 (.int .i64 0) Try.underlying42 Try.underlying3 (zeroI W4) hst4.mp p
    rw [hla] at hlk
    simp only [Option.getD_some, Option.isSome_some] at hlk
    have HNow := Lib.hid (ep_now c m now l W4 hst4.clk)
    have hwk : wrap64 ((k : Int) + 1) = (k : Int) + 1 := IntWalk.wrap64_in _ (by have := HI.out.2.2; have := HL.out; omega)
    have H9 := Lib.hid (And.intro hi4 hE4)
    clear hi4 hE4 hb4 hst4 hC hla
    rcases haa with haa | haa
    · have haa := haa.symm
      subst haa
      have hne : (now == now) = true := beq_self_eq_true _
      have hne2 : (now != now) = false := bne_self_eq_false _
      gi_wp2
      refine ⟨trivial, rfl, (CallsIn.inRound l2 (callsIn_wide.2 HNow.out)).mono ?_⟩
      rintro e w' ⟨rfl, rfl⟩
      gi_wp2
      refine ⟨trivial, ?_⟩
      gi_wp2
      obtain ⟨m', h1, h2⟩ := H9.out.1.step (Wx := W') (x := #[.int .i64 p, .int .i64 now]) HI.out.2.1 (by have := HI.out.2.2; have := HL.out; omega)
      exact ⟨(Ext.refl _ _).setCell (.inl (by simp)) _, m', h1, by first | exact h2 | (rw [hwk]; exact h2)⟩
    · have hne : (now - 1 == now) = false := by simp; omega
      subst haa
      gi_wp2
      refine ⟨trivial, rfl, (CallsIn.inRound l2 (callsIn_wide.2 HNow.out)).mono ?_⟩
      rintro e w' ⟨rfl, rfl⟩
      gi_wp2
      refine ⟨trivial, rfl, (CallsIn.inRound l2 (callsIn_wide.2 HNow.out)).mono ?_⟩
      rintro e w' ⟨rfl, rfl⟩
      gi_wp2
      obtain ⟨m', h1, h2⟩ := H9.out.1.step (Wx := W') (x := #[.int .i64 p, .int .i64 (now - 1)]) HI.out.2.1 (by have := HI.out.2.2; have := HL.out; omega)
      exact ⟨(Ext.refl _ _).setCell (.inl (by simp)) _, m', h1, by first | exact h2 | (rw [hwk]; exact h2)⟩
  · intro D mm xs W' hD hx hi hdD
    obtain ⟨rfl, hE, hb, _⟩ := hi
    rw [show xs = _ from hx, encP_len _ _ (Nat.le_refl _)] at hb
    have hm8 := H8.out.2.1.ext hE (fun x hx => by simp at hx; subst hx; exact .inr (.inl ⟨_, _, _, H8.out.2.2.1⟩))
    have H10 : Hid (ESt w W' r0 c m b c3 c4 (j + 1) now l ∧ MarkOk w W' (D :: Ds)) :=
      ⟨H8.out.1.extk hE (fun x hx => by simp at hx; have := H8.out.2.2.2.1; omega), hm8.cons hdD (fun h => by have := lt_of_block (H8.out.2.1.at' _ h).1; omega) (by have := H8.out.1.ext.size; omega)⟩
    have k4 := cell_of (j := 0) (v := .map (some b)) H10.out.1.k4 rfl
    have q0 := cell_of (j := 0) (v := .int .i64 l.length) hb rfl
    have hle := run_lenMap (P := Try.prog) 42 3 3 3 Try.underlying42 H10.out.1.mp
    clear hE hb hm8 hdD hD hx
    go_wp2
    refine Handed.intro (n - (j + 1)) ?measure ?_
    rotate_left
    go_step
    unfold EhI
    (repeat apply Exists.intro)
    refine ⟨?rel, rfl⟩
    case measure => have := HJ.out; omega
    case rel => exact ⟨j + 1, _, l, D :: Ds, by first | (rw [hwj]; rfl) | rfl, by have := HJ.out; omega, rfl, H10.out.1, H10.out.2⟩
  · intro D c' W' hD h
    exact h.elim
end Go.Proofs.Ytgpoplnfhlfogaa
