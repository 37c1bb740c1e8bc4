/- The walk of the law PmemHolds: a call of kind 4. -/
import Derived.Test.YtfojmjkcjdehaaaPoB
import Derived.Test.YtfojmjkcjdehaaaPnW
import Derived.Test.YtfojmjkcjdehaaaOrd
import Derived.Test.YtfojmjkcjdehaaaPoC
namespace Go.Proofs.Ytfojmjkcjdehaaa
open Go Go.RowKit Go.Shelf
attribute [local go_sem] Oper.semAt_some

set_option maxRecDepth 100000 in
set_option maxHeartbeats 8000000 in
theorem ho_arm4 (ao : Option Addr) (n cap : Nat) (mo : Option Addr) (mn mcap : Nat) (w : World) (d lb sb b7 : Nat) (A : Nat → PAct) (gk j : Nat) (D : Dv) (M : Nat → List Wd) (Ds : List Nat) {u2 u3 u6 u8 u10 u11 u12 u13 u14 u15 u16 u17 u18 u19 u20 u21 u22 u23 u24 u25 u26 u27 u28 u29 u30 u31 u32 u33 u34 u35 u36 u37 u38 u39 u40 u41 u42 u43 u44 u45 u46 u47 u48 u49 u50 u51 u52 u53 u54 u55 u56 u57 u58 u59 u60 u61 u62 u63 u64 u65 u66 u67 u68 u69 u70 u71 u72 u73 u74 u75 u76 u77 u78 u79 u80 u81 u82 u83 u84 u85 u86 u87 u88 u89 u90 u91 u92 u93 u94 u95 u96 u97 u98 u99 u100 u101 u102 u103 u104 u105 u106 u107 u108 u109 u110 u111 u112 u113 u114 u115 u116 u117 u118 u119 u120 u121 u122 u123 u124 u125 u126 u127 u128 u129 u130 u131 u132 u133 u134 u135 u136 u137 u138 u139 u140 u141 u142 u143 u144 u145 u146 u147 u148 u149 u150 u151 u152 u153 u154 u155 u156 u157 u158 u159 u160 u161 u162 u163 u164 u165 u166 u167 u168 u169 u170 u171 u172 u173 u174 u175 u176 u177 u178 u179 u180 u181 u182 u183 u184 u185 u186 u187 u188 u189 u190 u191 u192 u193 u194 u195 u196 u197 u198 u199 u200 u201 u202 u203 u204 u205 u206 u207 u208 u209 u210 u211 u212 u213 u214 u215 u216 u217 : Value} (wr : World)
    (HP : Hid (PActs w ao n A ∧ ∀ i, i < n → (A i).n ≤ 9223372036854775807)) (hst : HoSt w wr d lb sb b7 j D M) (hmk : MarkOk w wr Ds) (hj : j + gk = n) (hlt : j < n) (hn40 : n ≤ 40) (hwhat : (A j).what = 4)
    (J0 : Nat → Act → World → Prop) (K0 : Act → World → Prop) (hJ0 : ∀ k a' w', HoI ao n cap mo mn mcap w d lb sb b7 k a' w' → J0 k a' w') (hK0 : ∀ a' w', Handed J0 gk a' w' → K0 a' w') (Q0 : Exit → Act → World → Prop) (hQ0 : ∀ c a w, ¬ Q0 (.panic c) a w) :
    Code.wp Try.prog hoBody (Exit.then K0 Q0) { tmps := #[.slice ao n cap, .slice mo mn mcap, u2, u3, .bool false, .pointer (some ⟨d, 0, none⟩), u6, .pointer (some ⟨b7, 0, none⟩), u8, .int .i64 j, u10, u11, u12, u13, u14, u15, u16, u17, u18, u19, u20, u21, u22, u23, u24, u25, u26, u27, u28, u29, u30, u31, u32, u33, u34, u35, u36, u37, u38, u39, u40, u41, u42, u43, u44, u45, u46, u47, u48, u49, u50, u51, u52, u53, u54, u55, u56, u57, u58, u59, u60, u61, u62, u63, u64, u65, u66, u67, u68, u69, u70, u71, u72, u73, u74, u75, u76, u77, u78, u79, u80, u81, u82, u83, u84, u85, u86, u87, u88, u89, u90, u91, u92, u93, u94, u95, u96, u97, u98, u99, u100, u101, u102, u103, u104, u105, u106, u107, u108, u109, u110, u111, u112, u113, u114, u115, u116, u117, u118, u119, u120, u121, u122, u123, u124, u125, u126, u127, u128, u129, u130, u131, u132, u133, u134, u135, u136, u137, u138, u139, u140, u141, u142, u143, u144, u145, u146, u147, u148, u149, u150, u151, u152, u153, u154, u155, u156, u157, u158, u159, u160, u161, u162, u163, u164, u165, u166, u167, u168, u169, u170, u171, u172, u173, u174, u175, u176, u177, u178, u179, u180, u181, u182, u183, u184, u185, u186, u187, u188, u189, u190, u191, u192, u193, u194, u195, u196, u197, u198, u199, u200, u201, u202, u203, u204, u205, u206, u207, u208, u209, u210, u211, u212, u213, u214, u215, u216, u217], defers := Ds.map (fun D => { target := .collected D, args := #[] }) } wr := by
  conv => arg 2; whnf
  have HST := Lib.hid (And.intro hst hmk)
  clear hst hmk
  obtain ⟨b, off, rfl, x0, x1, x2, x3, x4, x5, x6⟩ : ∃ b off, ao = some ⟨b, off, none⟩ ∧ wr.cell? ⟨b, off + j * 6, none⟩ = some (.int .i64 (A j).what) ∧ wr.cell? ⟨b, off + j * 6 + 1, none⟩ = some (.int .i64 (A j).at') ∧ wr.cell? ⟨b, off + j * 6 + 2, none⟩ = some (.int .i64 (A j).line) ∧ wr.cell? ⟨b, off + j * 6 + 3, none⟩ = some (.int .u64 (A j).wd) ∧ wr.cell? ⟨b, off + j * 6 + 4, none⟩ = some (.int .u64 (A j).fr) ∧ wr.cell? ⟨b, off + j * 6 + 5, none⟩ = some (.slice (A j).bo (A j).n (A j).cap) ∧ True := by
    rcases HP.out.1.ext HST.out.1.ext with h | ⟨b, off, h1, h2⟩
    · omega
    · obtain ⟨a0, a1, a2, a3, a4, a5, _⟩ := h2 j hlt
      exact ⟨b, off, h1, a0, a1, a2, a3, a4, a5, trivial⟩
  have hi0 : (0 : Int) ≤ (j : Int) := by omega
  have hi1 : (j : Int) < (n : Int) := by omega
  have hwj : wrap64 ((j : Int) + 1) = (j : Int) + 1 := IntWalk.wrap64_in _ (by omega)
  have HJ := Lib.hid (And.intro hj (And.intro hlt hn40))
  clear hj hlt hn40 x6
  generalize A j = x at *
  obtain ⟨what, at0, ln, wd, fr, bo, bn, bc, Mb⟩ := x
  dsimp only at *
  subst hwhat
  go_upto_region 15 with fail
  obtain ⟨W0, hW0⟩ : ∃ W0, wr.alloc (.cells #[.int .i64 4, .int .i64 at0, .int .i64 ln, .int .u64 wd, .int .u64 fr, .slice bo bn bc] 39) = W0 := ⟨_, rfl⟩
  obtain ⟨b10, hb10⟩ : ∃ b10, wr.heap.size = b10 := ⟨_, rfl⟩
  have H0 : Hid (HoSt w W0 d lb sb b7 j D M ∧ MarkOk w W0 Ds ∧ W0.heap[b10]? = some (.cells #[.int .i64 4, .int .i64 at0, .int .i64 ln, .int .u64 wd, .int .u64 fr, .slice bo bn bc] 39 (0, 0)) ∧ Ext [] wr W0) := by
    have hE : Ext [] wr W0 := by rw [← hW0]; exact (Ext.refl _ _).alloc _
    exact ⟨HST.out.1.ext1 hE, HST.out.2.ext0 hE, by rw [← hW0, ← hb10]; exact World.alloc_heap_new _ _, hE⟩
  try rw [hW0]
  try rw [hb10]
  clear hW0 hb10 x0 x1 x2 x3 x4 x5
  have k0 := cell_of (j := 0) (v := .int .i64 4) H0.out.2.2.1 rfl
  have k1 := cell_of (j := 1) (v := .int .i64 at0) H0.out.2.2.1 rfl
  have k2 := cell_of (j := 2) (v := .int .i64 ln) H0.out.2.2.1 rfl
  have k3 := cell_of (j := 3) (v := .int .u64 wd) H0.out.2.2.1 rfl
  have k4 := cell_of (j := 4) (v := .int .u64 fr) H0.out.2.2.1 rfl
  have hmm := @run_makeMap Try.prog
  have HLN : Hid (D.W.length ≤ 5) := by
    have := H0.out.1.ok.len
    have := H0.out.1.may.n5
    exact (by omega : D.W.length ≤ 5)
  have HWT := Lib.hid (fun (W : World) (hE : Ext [] W0 W) => pm_Waits d lb sb D W (H0.out.1.dev.ext0 hE) H0.out.1.ok)
  go_upto_region 25 with fail
  clear k0 k1 k2 k3 k4
  obtain ⟨W1, hW1⟩ : ∃ W1, (W0.alloc (.map #[] 0)).alloc (.cells #[.map (some W0.heap.size)] 74) = W1 := ⟨_, rfl⟩
  obtain ⟨mb, hmb⟩ : ∃ mb, W0.heap.size = mb := ⟨_, rfl⟩
  have H1 : Hid (Ext [] W0 W1 ∧ IMap W1 mb [] ∧ W1.heap[mb + 1]? = some (.cells #[.map (some mb)] 74 (0, 0)) ∧ w.heap.size ≤ mb) := by
    refine ⟨?_, ?_, ?_, ?_⟩
    · rw [← hW1]; exact ((Ext.refl _ _).alloc _).alloc _
    · rw [← hW1, ← hmb]; exact (IMap.made W0).alloc _
    · rw [← hW1, ← hmb]
      have := World.alloc_heap_new (W0.alloc (.map #[] 0)) (.cells #[.map (some W0.heap.size)] 74)
      rwa [World.size_alloc] at this
    · rw [← hmb]; exact H0.out.1.ext.size
  try rw [hW1]
  try rw [hmb]
  clear hW1 hmb hmm
  go_wp2_with fail
  refine (HWT.out _ H1.out.1).mono ?_
  rintro e w5 ⟨bw', ao', cap', rfl, hE5, _, _, _⟩
  have heq := eqSeq 81 #[.pointer (some ⟨bw', 0, none⟩)] w5
  have H5 := Lib.hid (H1.out.1.trans hE5)
  have H45 := Lib.hid hE5
  clear hE5
  go_wp2_with fail
  refine (HWT.out _ H5.out).mono ?_
  rintro e w6 ⟨bw, ao6, cap2, rfl, hE6, hKB, hbw, hao⟩
  have H6 : Hid (Ext [] W0 w6 ∧ IMap w6 mb [] ∧ w6.heap[mb + 1]? = some (.cells #[.map (some mb)] 74 (0, 0)) ∧ WKB bw (.slice ao6 D.W.length cap2) D.W w6 ∧ mb + 1 < bw ∧ mb < w6.heap.size) :=
    ⟨H5.out.trans hE6, H1.out.2.1.ext (H45.out.trans hE6) (by simp), (H45.out.trans hE6).at H1.out.2.2.1 (by simp), hKB, (by have := lt_of_block H1.out.2.2.1; have := H45.out.size; omega), (by have := lt_of_block H1.out.2.2.1; have := H45.out.size; have := hE6.size; omega)⟩
  clear hE6 hKB hbw hao heq HWT
  have hKBn : Hid (∀ W, Ext [mb] w6 W → WKB bw (.slice ao6 D.W.length cap2) D.W W) := fun W hE => ⟨hE.cell H6.out.2.2.2.1.1 (by have := H6.out.2.2.2.2.1; simp; omega), H6.out.2.2.2.1.2.ext hE (fun g cur hg hm => by
    obtain ⟨es, clock, hmb, _⟩ := H6.out.2.1
    simp at hm
    rw [hm, hmb] at hg
    simp at hg)⟩
  go_wp2
  refine wpIn_wide.1 (wp_range (gf := 81) (lb := #[.pointer (some ⟨bw, 0, none⟩)]) rfl (fun args w => enters_of Try.func81 (by kernel_rfl) rfl args w)
    (waits_seq bw ao6 cap2 D.W (by have := HLN.out; omega)) (fun pre x h => by obtain ⟨k, _, _, rfl⟩ := okT_last h; rfl) [mb]
    (fun mm pre W => mm = [mb] ∧ Ext [mb] w6 W ∧ ∃ l, IMap W mb l ∧ ∀ k : Nat, look l (k : Int) = if waitsB (D.W.take pre.length) k = true then some (.int .i64 1) else none)
    (fun _ _ => False) ?_ ?_ ?_ ?_ ?_ ?_ ?_ ?_)
  · exact fun mm pre => (Steady.const _ _).and ((Steady.ext (Nat.le_refl _)).and (.ex fun l => IMap.steady.and (Steady.const _ _)))
  · exact fun c => Steady.const _ _
  · rintro mm pre W ⟨_, hE, _⟩
    exact hKBn.out _ hE
  · intro q hq
    simp at hq
    subst hq
    exact H6.out.2.2.2.2.2
  · exact ⟨rfl, Ext.refl _ _, [], H6.out.2.1, fun k => by simp [look, waitsB]⟩
  · rintro l mm pre x W hl ⟨rfl, hE, lm, hI, hlk⟩ hok
    obtain ⟨q, hq, hpre, rfl⟩ := okT_last hok
    have hpl : pre.length = q := by rw [hpre, encT_len _ _ (by omega)]
    rw [hpl] at hlk
    have hc11 := hE.at H6.out.2.2.1 (by simp)
    have HE2 := Lib.hid (And.intro hE (And.intro hI (And.intro hlk (And.intro hpl hq))))
    obtain ⟨kk, hkk⟩ : ∃ kk, (D.W.getD q wtD).1 = kk := ⟨_, rfl⟩
    have HKK := Lib.hid hkk
    rw [hkk]
    clear hE hI hlk hpl hq hok hpre hkk hl
    intro K hK
    gi_wp2
    refine hK _ W (Ext.refl [] _) ?_
    intro W' hC
    clear hK K
    have b11 := hC.block _ _ hc11 (.inr rfl)
    have k11 := cell_of (j := 0) (v := .map (some mb)) b11 rfl
    obtain ⟨w9, hset, hE9, hI9, hs9⟩ := run_mapSet' (P := Try.prog) 74 3 3 Try.underlying74 Try.underlying3 ((IMap.steady (N := w6.heap.size)) _ _ HE2.out.2.1 hC) (kk : Int) (.int .i64 1)
    have HN := Lib.hid (And.intro hC (And.intro hE9 hI9))
    clear b11 hC hE9 hI9 hs9 hc11
    gi_wp2
    refine ⟨HN.out.2.1, [mb], Sub.refl _ _, rfl, ((Steady.ext (Nat.le_refl _)) _ _ HE2.out.1 HN.out.1).trans HN.out.2.1, _, HN.out.2.2, fun k => ?_⟩
    rw [look_upd, List.length_append, HE2.out.2.2.2.1, HE2.out.2.2.1 k, List.length_singleton, waitsB_succ HE2.out.2.2.2.2, HKK.out]
    by_cases e : k = kk
    · subst e
      simp
    · rw [if_neg (by omega), show (kk == k) = false from by simp; omega, Bool.or_false]
  · intro D2 mm xs W hD2 hx hi hdD
    obtain ⟨rfl, hE, lm, hI, hlk⟩ := hi
    rw [show xs = encT D.W D.W.length from hx, encT_len _ _ (Nat.le_refl _), List.take_length] at hlk
    have hm6 := H0.out.2.1.ext0 H6.out.1
    have H7 : Hid (HoSt w W d lb sb b7 j D M ∧ MarkOk w W (D2 :: Ds) ∧ IMap W mb lm ∧ W.heap[mb + 1]? = some (.cells #[.map (some mb)] 74 (0, 0))) :=
      ⟨(H0.out.1.ext1 H6.out.1).extM H6.out.2.1 H1.out.2.2.2 hE, (hm6.extM H6.out.2.1 hE).cons hdD (fun h => by have := lt_of_block (hm6.at' _ h).1; omega) (by have := H0.out.1.ext.size; have := H6.out.1.size; omega), hI, hE.at H6.out.2.2.1 (by simp)⟩
    have HLK := Lib.hid hlk
    clear hE hI hlk hm6 hdD hD2 hx H1 H5 H45 H6 hKBn
    go_wp2_with fail
    refine (pm_Fence_in d lb sb D W H7.out.1.dev H7.out.1.ok).mono ?_
    rintro e w8 ⟨rfl, hD8, hE8⟩
    have hE8' : Ext [d, lb, sb] W w8 := hE8.sub (fun q hq => by simp at hq ⊢; omega)
    have H8 : Hid (HoP w w8 d lb sb b7 j D.fence (Mf 0 D.W M) ∧ MarkOk w w8 (D2 :: Ds) ∧ IMap w8 mb lm ∧ w8.heap[mb + 1]? = some (.cells #[.map (some mb)] 74 (0, 0))) := by
      rw [Mf_zero]
      exact ⟨H7.out.1.actedP hE8' hD8 (Dv.settle_ok H7.out.1.ok _), H7.out.2.1.extD H7.out.1.dev hE8', H7.out.2.2.1.ext hE8' (H7.out.1.dev.neM H7.out.2.2.1),
        hE8'.at H7.out.2.2.2 (H7.out.1.dev.noT (e := 74) (by decide) (by decide) (m := [d, lb, sb]) (fun j hj => by simpa using hj) _ _ H7.out.2.2.2)⟩
    clear hE8 hE8' hD8
    go_wp2
    go_loopg [13] 5 (fun cnt i wr2 => ∃ k : Nat, i = .int .i64 k ∧ k + cnt = 5 ∧ HoP w wr2 d lb sb b7 j D.fence (Mf k D.W M) ∧ MarkOk w wr2 (D2 :: Ds) ∧ IMap wr2 mb lm ∧ wr2.heap[mb + 1]? = some (.cells #[.map (some mb)] 74 (0, 0)))
    case atStart => exact ⟨0, rfl, rfl, H8.out⟩
    case round =>
      obtain ⟨k, rfl, hk, hp, hmk, hI, hmc⟩ := hrel
      by_cases hk5 : k < 5
      · have hi0 : (0 : Int) ≤ (k : Int) := by omega
        have hi1 : (k : Int) < 5 := by omega
        have k11 := cell_of (j := 0) (v := .map (some mb)) hmc rfl
        have hlook := run_look_at (P := Try.prog) 74 3 3 (.int .i64 0) Try.underlying74 Try.underlying3 (zeroI wr) hI (k : Int)
        rw [HLK.out k] at hlook
        cases hw : waitsB D.W k with
        | false =>
          rw [hw] at hlook
          simp only [Bool.false_eq_true, if_false, Option.getD_none] at hlook
          have HK := Lib.hid (And.intro hk (And.intro hk5 (And.intro hp (And.intro hmk (And.intro hI (And.intro hmc hw))))))
          clear hk hk5 hp hmk hI hmc hw
          go_wp2
          go_roundg (5 - (k + 1))
          case measure => have := HK.out.1; have := HK.out.2.1; omega
          case rel => exact ⟨k + 1, by go_num, by have := HK.out.1; have := HK.out.2.1; omega, by rw [Mf_no HK.out.2.2.2.2.2.2]; exact HK.out.2.2.1, HK.out.2.2.2.1, HK.out.2.2.2.2.1, HK.out.2.2.2.2.2.1⟩
        | true =>
          rw [hw] at hlook
          simp only [if_true, Option.getD_some] at hlook
          obtain ⟨V, B, O, C, hr⟩ := hp.rows
          have hc := cell_of hr.blk (v5_at V hk5)
          rw [hr.val k hk5] at hc
          have hf := free_of hr.blk k
          have hne : Mf k D.W M k ≠ [] := by
            rw [show Mf k D.W M k = M k from by unfold Mf; simp]
            exact H7.out.1.may.ne k hk5
          have hlp : 1 ≤ (Mf k D.W M k).length := List.length_pos_iff.2 hne
          have hlc := (hr.row k hk5).le
          have hcm := (hr.row k hk5).max
          unfold maxLen at hcm
          have HK := Lib.hid (And.intro hk (And.intro hk5 (And.intro hp (And.intro hmk (And.intro hI (And.intro hmc (And.intro hw (And.intro hr hne))))))))
          clear hk hk5 hp hmk hI hmc hw hr hne
          obtain ⟨ll, hll⟩ : ∃ ll, (Mf k D.W M k).length = ll := ⟨_, rfl⟩
          obtain ⟨cc, hcc⟩ : ∃ cc, C k = cc := ⟨_, rfl⟩
          have HCC := Lib.hid (And.intro hll hcc)
          rw [hll, hcc] at hc hlc
          rw [hll] at hlp
          rw [hcc] at hcm
          clear hll hcc
          obtain ⟨m, rfl⟩ : ∃ m, ll = m + 1 := ⟨ll - 1, by omega⟩
          have q2 : IntKind.i64.wrap (m : Int) = (m : Int) := by
            rw [IntKind.wrap_i64]
            omega
          have q3 : (m : Int) ≤ (m : Int) + 1 := by omega
          have q4 : ¬ (cc = m) := by omega
          have HM1 := Lib.hid (And.intro hlp (And.intro hlc hcm))
          clear hlp hlc hcm
          go_wp2
          refine wp_region_g [0, 1, 2, 3, 4, 5, 6, 7, 8, 9] [10, 11] (Ext [] wr) (by kernel_rfl) (by kernel_rfl) (fun c _ _ _ _ h => (hQ0 c _ _ h).elim) (Ext.refl _ _).drew ?_
          simp only [pickL, List.getElem?_cons_zero, List.getElem?_cons_succ, List.cons_append, List.nil_append]
          repeat (first
            | (refine wpHd_yes ?_ (by rfl) (fun w hSw => ?_) ?_
               rotate_left
               · (have q0 := hSw.cell hc (by simp); clear hSw; go_simp; first | exact ⟨rfl, rfl⟩ | exact rfl)
               simp only [Act.put, List.setIfInBounds_toArray, List.set_cons_zero, List.set_cons_succ]))
          refine wpHd_nil ?_
          refine wpTlG_step (by rfl) (fun K hK => ?_)
          go_simp
          refine hK _ _ (fun _ => (Ext.refl _ _).drew) ?_
          clear hK K
          try simp only [Act.put, List.setIfInBounds_toArray, List.set_cons_zero, List.set_cons_succ]
          refine wpTlG_last (by rfl) ?_
          go_simp
          have hcut := (HK.out.2.2.2.2.2.2.2.1.row k HK.out.2.1).cut (k := m) (by have := HCC.out.1; omega)
          rw [flat_drop, show (Mf k D.W M k).drop m = [lastW (Mf k D.W M k)] from by rw [← drop_last HK.out.2.2.2.2.2.2.2.2, HCC.out.1]; rfl, HCC.out.1, HCC.out.2, show m + 1 - m = 1 from by omega] at hcut
          have H9 := Lib.hid (HK.out.2.2.1.setP HK.out.2.2.2.2.2.2.2.1 HK.out.2.1 (Ext.refl [] wr) (fun q hq => by cases hq) (.inl rfl) (l := [lastW (Mf k D.W M k)]) hcut (Nat.le_refl j) (by simp))
          have hE7 : Ext [b7] wr (wr.setCell ⟨b7, k, none⟩ (.slice (some ⟨B k, O k + m * 8, none⟩) 1 (cc - m))).drew := ((Ext.refl [b7] wr).setCell (.inl (by simp)) _).drew
          have H10 : Hid (MarkOk w (wr.setCell ⟨b7, k, none⟩ (.slice (some ⟨B k, O k + m * 8, none⟩) 1 (cc - m))).drew (D2 :: Ds) ∧ IMap (wr.setCell ⟨b7, k, none⟩ (.slice (some ⟨B k, O k + m * 8, none⟩) 1 (cc - m))).drew mb lm ∧ (wr.setCell ⟨b7, k, none⟩ (.slice (some ⟨B k, O k + m * 8, none⟩) 1 (cc - m))).drew.heap[mb + 1]? = some (.cells #[.map (some mb)] 74 (0, 0))) := by
            have hb7 := HK.out.2.2.2.2.2.2.2.1.blk
            refine ⟨HK.out.2.2.2.1.ext hE7 (fun q hq => by simp at hq; subst hq; exact .inr ⟨_, _, _, hb7⟩), HK.out.2.2.2.2.1.ext hE7 (fun h => ?_), hE7.at HK.out.2.2.2.2.2.1 (fun h => ?_)⟩
            · obtain ⟨es, clock, hmb, _⟩ := HK.out.2.2.2.2.1
              simp at h
              rw [h, hb7] at hmb
              simp at hmb
            · have hmc := HK.out.2.2.2.2.2.1
              simp at h
              rw [h, hb7] at hmc
              simp at hmc
          clear hcut hE7 hc hf hlook k11
          go_wp2
          go_roundg (5 - (k + 1))
          case measure => have := HK.out.1; have := HK.out.2.1; omega
          case rel =>
            refine ⟨k + 1, by go_num, by have := HK.out.1; have := HK.out.2.1; omega, ?_, H10.out⟩
            rw [Mf_yes HK.out.2.2.2.2.2.2.1]
            exact H9.out.ext1 (Ext.refl _ _).drew
      · obtain rfl : k = 5 := by omega
        have HK := Lib.hid (And.intro (hp.st H7.out.1.may.fenced).more hmk)
        clear hk hk5 hp hmk hI hmc
        go_wp2
        refine Handed.intro (n - (j + 1)) ?measure ?_
        rotate_left
        go_step
        unfold HoI
        (repeat apply Exists.intro)
        refine ⟨?rel, rfl⟩
        case measure => have := HJ.out; omega
        case rel => exact ⟨j + 1, D.fence, Mf 5 D.W M, D2 :: Ds, by first | (rw [hwj]; rfl) | rfl, by have := HJ.out; omega, rfl, HK.out.1, HK.out.2⟩
  · exact fun D c W _ h _ => h.elim
end Go.Proofs.Ytfojmjkcjdehaaa
