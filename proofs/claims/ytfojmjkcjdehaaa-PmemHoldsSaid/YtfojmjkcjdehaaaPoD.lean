/- The walk of the law PmemHolds: a call of kind 3. -/
import Derived.Test.YtfojmjkcjdehaaaPoB
import Derived.Test.YtfojmjkcjdehaaaPnW
import Derived.Test.YtfojmjkcjdehaaaOrd
import Derived.Test.YtfojmjkcjdehaaaPoC
namespace Go.Proofs.Ytfojmjkcjdehaaa
open Go Go.RowKit Go.Shelf
attribute [local go_sem] Oper.semAt_some

set_option maxRecDepth 100000 in
set_option maxHeartbeats 8000000 in
theorem ho_arm3 (ao : Option Addr) (n cap : Nat) (mo : Option Addr) (mn mcap : Nat) (w : World) (d lb sb b7 : Nat) (A : Nat → PAct) (gk j : Nat) (D : Dv) (M : Nat → List Wd) (Ds : List Nat) {u2 u3 u6 u8 u10 u11 u12 u13 u14 u15 u16 u17 u18 u19 u20 u21 u22 u23 u24 u25 u26 u27 u28 u29 u30 u31 u32 u33 u34 u35 u36 u37 u38 u39 u40 u41 u42 u43 u44 u45 u46 u47 u48 u49 u50 u51 u52 u53 u54 u55 u56 u57 u58 u59 u60 u61 u62 u63 u64 u65 u66 u67 u68 u69 u70 u71 u72 u73 u74 u75 u76 u77 u78 u79 u80 u81 u82 u83 u84 u85 u86 u87 u88 u89 u90 u91 u92 u93 u94 u95 u96 u97 u98 u99 u100 u101 u102 u103 u104 u105 u106 u107 u108 u109 u110 u111 u112 u113 u114 u115 u116 u117 u118 u119 u120 u121 u122 u123 u124 u125 u126 u127 u128 u129 u130 u131 u132 u133 u134 u135 u136 u137 u138 u139 u140 u141 u142 u143 u144 u145 u146 u147 u148 u149 u150 u151 u152 u153 u154 u155 u156 u157 u158 u159 u160 u161 u162 u163 u164 u165 u166 u167 u168 u169 u170 u171 u172 u173 u174 u175 u176 u177 u178 u179 u180 u181 u182 u183 u184 u185 u186 u187 u188 u189 u190 u191 u192 u193 u194 u195 u196 u197 u198 u199 u200 u201 u202 u203 u204 u205 u206 u207 u208 u209 u210 u211 u212 u213 u214 u215 u216 u217 : Value} (wr : World)
    (HP : Hid (PActs w ao n A ∧ ∀ i, i < n → (A i).n ≤ 9223372036854775807)) (hst : HoSt w wr d lb sb b7 j D M) (hmk : MarkOk w wr Ds) (hj : j + gk = n) (hlt : j < n) (hn40 : n ≤ 40) (hwhat : (A j).what = 3)
    (J0 : Nat → Act → World → Prop) (K0 : Act → World → Prop) (hJ0 : ∀ k a' w', HoI ao n cap mo mn mcap w d lb sb b7 k a' w' → J0 k a' w') (hK0 : ∀ a' w', Handed J0 gk a' w' → K0 a' w') (Q0 : Exit → Act → World → Prop) (hQ0 : ∀ c a w, ¬ Q0 (.panic c) a w) :
    Code.wp Try.prog hoBody (Exit.then K0 Q0) { tmps := #[.slice ao n cap, .slice mo mn mcap, u2, u3, .bool false, .pointer (some ⟨d, 0, none⟩), u6, .pointer (some ⟨b7, 0, none⟩), u8, .int .i64 j, u10, u11, u12, u13, u14, u15, u16, u17, u18, u19, u20, u21, u22, u23, u24, u25, u26, u27, u28, u29, u30, u31, u32, u33, u34, u35, u36, u37, u38, u39, u40, u41, u42, u43, u44, u45, u46, u47, u48, u49, u50, u51, u52, u53, u54, u55, u56, u57, u58, u59, u60, u61, u62, u63, u64, u65, u66, u67, u68, u69, u70, u71, u72, u73, u74, u75, u76, u77, u78, u79, u80, u81, u82, u83, u84, u85, u86, u87, u88, u89, u90, u91, u92, u93, u94, u95, u96, u97, u98, u99, u100, u101, u102, u103, u104, u105, u106, u107, u108, u109, u110, u111, u112, u113, u114, u115, u116, u117, u118, u119, u120, u121, u122, u123, u124, u125, u126, u127, u128, u129, u130, u131, u132, u133, u134, u135, u136, u137, u138, u139, u140, u141, u142, u143, u144, u145, u146, u147, u148, u149, u150, u151, u152, u153, u154, u155, u156, u157, u158, u159, u160, u161, u162, u163, u164, u165, u166, u167, u168, u169, u170, u171, u172, u173, u174, u175, u176, u177, u178, u179, u180, u181, u182, u183, u184, u185, u186, u187, u188, u189, u190, u191, u192, u193, u194, u195, u196, u197, u198, u199, u200, u201, u202, u203, u204, u205, u206, u207, u208, u209, u210, u211, u212, u213, u214, u215, u216, u217], defers := Ds.map (fun D => { target := .collected D, args := #[] }) } wr := by
  conv => arg 2; whnf
  have HST := Lib.hid (And.intro hst hmk)
  clear hst hmk
  obtain ⟨b, off, rfl, x0, x1, x2, x3, x4, x5, x6⟩ : ∃ b off, ao = some ⟨b, off, none⟩ ∧ wr.cell? ⟨b, off + j * 6, none⟩ = some (.int .i64 (A j).what) ∧ wr.cell? ⟨b, off + j * 6 + 1, none⟩ = some (.int .i64 (A j).at') ∧ wr.cell? ⟨b, off + j * 6 + 2, none⟩ = some (.int .i64 (A j).line) ∧ wr.cell? ⟨b, off + j * 6 + 3, none⟩ = some (.int .u64 (A j).wd) ∧ wr.cell? ⟨b, off + j * 6 + 4, none⟩ = some (.int .u64 (A j).fr) ∧ wr.cell? ⟨b, off + j * 6 + 5, none⟩ = some (.slice (A j).bo (A j).n (A j).cap) ∧ True := by
    rcases HP.out.1.ext HST.out.1.ext with h | ⟨b, off, h1, h2⟩
    · omega
    · obtain ⟨a0, a1, a2, a3, a4, a5, _⟩ := h2 j hlt
      exact ⟨b, off, h1, a0, a1, a2, a3, a4, a5, trivial⟩
  have hi0 : (0 : Int) ≤ (j : Int) := by omega
  have hi1 : (j : Int) < (n : Int) := by omega
  have hwj : wrap64 ((j : Int) + 1) = (j : Int) + 1 := IntWalk.wrap64_in _ (by omega)
  have HJ := Lib.hid (And.intro hj (And.intro hlt hn40))
  clear hj hlt hn40 x6
  generalize A j = x at *
  obtain ⟨what, at0, ln, wd, fr, bo, bn, bc, Mb⟩ := x
  dsimp only at *
  subst hwhat
  go_upto_region 15 with fail
  obtain ⟨W0, hW0⟩ : ∃ W0, wr.alloc (.cells #[.int .i64 3, .int .i64 at0, .int .i64 ln, .int .u64 wd, .int .u64 fr, .slice bo bn bc] 39) = W0 := ⟨_, rfl⟩
  obtain ⟨b10, hb10⟩ : ∃ b10, wr.heap.size = b10 := ⟨_, rfl⟩
  have H0 : Hid (HoSt w W0 d lb sb b7 j D M ∧ MarkOk w W0 Ds ∧ W0.heap[b10]? = some (.cells #[.int .i64 3, .int .i64 at0, .int .i64 ln, .int .u64 wd, .int .u64 fr, .slice bo bn bc] 39 (0, 0)) ∧ Ext [] wr W0) := by
    have hE : Ext [] wr W0 := by rw [← hW0]; exact (Ext.refl _ _).alloc _
    exact ⟨HST.out.1.ext1 hE, HST.out.2.ext0 hE, by rw [← hW0, ← hb10]; exact World.alloc_heap_new _ _, hE⟩
  try rw [hW0]
  try rw [hb10]
  clear hW0 hb10 x0 x1 x2 x3 x4 x5
  have k0 := cell_of (j := 0) (v := .int .i64 3) H0.out.2.2.1 rfl
  have k1 := cell_of (j := 1) (v := .int .i64 at0) H0.out.2.2.1 rfl
  have k2 := cell_of (j := 2) (v := .int .i64 ln) H0.out.2.2.1 rfl
  have k3 := cell_of (j := 3) (v := .int .u64 wd) H0.out.2.2.1 rfl
  have k4 := cell_of (j := 4) (v := .int .u64 fr) H0.out.2.2.1 rfl
  cases hl : D.line ln with
  | true =>
    obtain ⟨k, rfl⟩ : ∃ k : Nat, ln = k := ⟨ln.toNat, by unfold Dv.line at hl; simp at hl; omega⟩
    have hk5 : k < 5 := by have := H0.out.1.may.n5; unfold Dv.line at hl; simp at hl; omega
    have HFL := Lib.hid (pm_Flush d lb sb (k : Int) D W0 H0.out.1.dev H0.out.1.ok)
    rw [show (D.flush (k : Int)).2 = 0 from by unfold Dv.flush; rw [if_pos hl]] at HFL
    have HMF := Lib.hid (H0.out.1.may.flush hl)
    have hk0 : (0 : Int) ≤ (k : Int) := by omega
    have hk1 : (k : Int) < 5 := by omega
    have hdk : decide ((0 : Int) ≤ (k : Int)) = true := by simp
    have hdk1 : decide ((k : Int) < 5) = true := by simpa using hk1
    clear hl
    go_wp2_with fail
    refine HFL.out.mono ?_
    rintro e w5 ⟨rfl, hD5, hE5⟩
    have H5 := Lib.hid (And.intro (H0.out.1.actedP (hE5.sub (fun q hq => by simp at hq ⊢; omega)) hD5 (Dv.flush_ok H0.out.1.ok _)) (And.intro (H0.out.2.1.extD H0.out.1.dev (hE5.sub (fun q hq => by simp at hq ⊢; omega))) (hE5.at H0.out.2.2.1 (by simp; have := H0.out.1.dev.noT (e := 39) (by decide) (by decide) (m := [d]) (fun j hj => by simp at hj; exact .inl hj) _ _ H0.out.2.2.1; simpa using this))))
    clear hD5 hE5 k0 k1 k2 k3 k4 HFL
    have k2 := cell_of (j := 2) (v := .int .i64 (k : Int)) H5.out.2.2 rfl
    go_wp2_with fail
    refine (pm_num _ _).mono ?_
    rintro e w' ⟨rfl, rfl⟩
    go_upto_region 22 with fail
    obtain ⟨D2, hD2⟩ : ∃ D2, (D.flush (k : Int)).1 = D2 := ⟨_, rfl⟩
    have hL2 : D2.L = D.L := by rw [← hD2]; exact (Dv.flush_LS _ _).1
    have HMF2 : Hid (MayOk D2 (updM M k (M k ++ [lineOf D2.L k]))) := by rw [hL2, ← hD2]; exact HMF.out
    rw [hD2] at H5
    obtain ⟨V, B, O, C, hr⟩ := H5.out.1.rows
    have hlen := H5.out.1.len k hk5
    have hc := cell_of hr.blk (v5_at V hk5)
    rw [hr.val k hk5] at hc
    have hf := free_of hr.blk k
    have hn2 := HMF2.out.n5
    have HR := Lib.hid (And.intro hr (And.intro hk5 (And.intro hlen (show k < D2.n by omega))))
    have HDV := Lib.hid (fun (W : World) (hE : Ext [] w5 W) => pm_seenline d lb sb D2 k W (H5.out.1.dev.ext0 hE) H5.out.1.ok (by omega))
    generalize lineOf D2.L k = G at *
    unfold w8 at HDV
    obtain ⟨i0, hi, hz0, hz1, hz2⟩ := info_parts infoL8
    have hI1 := Lib.hid hi
    have hI2 := Lib.hid hz0
    have hI3 := Lib.hid hz1
    have hI4 := Lib.hid hz2
    clear hD2 hL2 hr hlen hn2 hi hz0 hz1 hz2 HMF H0
    have h7n : b7 ∉ [B k] := by simpa using (HR.out.1.ne7 HR.out.2.1).symm
    have h10n : b10 ∉ [B k] := by
      intro h
      obtain ⟨cur, hcb, _⟩ := (HR.out.1.row k HR.out.2.1).blk
      simp at h
      rw [← h, H5.out.2.2] at hcb
      simp at hcb
    have HNI := Lib.hid (And.intro h7n h10n)
    clear h7n h10n
    refine wp_region_g [0, 1, 2, 3, 4, 5, 6, 7, 8] [9, 10, 11, 12, 13] (Ext [B k] w5) (by kernel_rfl) (by kernel_rfl) (fun c _ _ _ _ h => (hQ0 c _ _ h).elim) (Ext.refl _ _).drew ?_
    simp only [pickL, List.getElem?_cons_zero, List.getElem?_cons_succ, List.cons_append, List.nil_append]
    repeat (first
      | (refine wpHd_yes ?_ (by rfl) (fun w hSw => ?_) ?_
         rotate_left
         · (have q0 := hSw.cell k2 HNI.out.2; have q1 := hSw.cell hc HNI.out.1; clear hSw; go_simp; first | exact ⟨rfl, rfl⟩ | exact rfl)
         simp only [Act.put, List.setIfInBounds_toArray, List.set_cons_zero, List.set_cons_succ]))
    refine wpHd_nil ?_
    refine wpTlG_step (by rfl) (fun K hK => ?_)
    go_simp
    go_at_call 33
    refine (HDV.out _ (Ext.refl _ _).drew).mono ?_
    rintro e w7 ⟨rfl, hE7⟩
    have hX7 : Ext [] w5 w7 := (Ext.refl [] w5).drew.trans hE7
    refine hK _ _ (fun _ => hX7.wide) ?_
    clear hK K hE7
    try simp only [Act.put, List.setIfInBounds_toArray, List.set_cons_zero, List.set_cons_succ]
    refine wpTlG_step (by rfl) (fun K hK => ?_)
    go_simp
    refine hK _ _ (fun _ => (hX7.alloc _).wide) ?_
    clear hK K
    try simp only [Act.put, List.setIfInBounds_toArray, List.set_cons_zero, List.set_cons_succ]
    refine wpTlG_step (by rfl) (fun K hK => ?_)
    refine of_step (by rfl) (step_append_off (ops := #[]) (E := True) (by rfl) (.tmp 97) (.tmp 102) 30 (by rfl) 68 i0 (.agg #[.int .u64 0, .int .u64 0, .int .u64 0, .int .u64 0, .int .u64 0, .int .u64 0, .int .u64 0, .int .u64 0]) 8 64 Try.underlying30 hI1.out hI2.out hI3.out hI4.out rfl (b := B k) (off := O k) (n := (M k).length) (cap := C k) (flat (M k)) (by rfl) ?_ ⟨w7.heap.size, 0, none⟩ 1 1 (w8 G).toList (by rfl) rfl ?_ ?_ ?_ ?_ ?_)
    · exact ((HR.out.1.ext0 hX7).row k HR.out.2.1).ext ((Ext.refl [] w7).alloc _) (by simp)
    · exact World.news_of_block (cs := w8 G) (t := 68) (fr := (0, 0)) (World.alloc_heap_new _ _)
    · simp [w8, Value.oneCell']
    · have := HR.out.2.2.1
      have := HJ.out.2.2
      unfold maxLen
      omega
    · have := HR.out.2.2.1
      have := HJ.out.2.2
      omega
    rintro b8 o8 c8 w8' hrow8 hE8 hb8
    obtain ⟨wa, hwa⟩ : ∃ wa, w7.alloc (.cells #[.int .u64 (G 0), .int .u64 (G 1), .int .u64 (G 2), .int .u64 (G 3), .int .u64 (G 4), .int .u64 (G 5), .int .u64 (G 6), .int .u64 (G 7)] 68) = wa := ⟨_, rfl⟩
    have hXa : Ext [] w5 wa := by rw [← hwa]; exact hX7.alloc _
    have hra := HR.out.1.ext0 hXa
    rw [hwa] at hE8 hb8
    have hXX : Ext [B k] w5 w8' := hXa.wide.trans hE8
    refine hK _ _ (fun _ => hXX) ?_
    clear hK K
    have f8 := free_of (hXX.at HR.out.1.blk HNI.out.1) k
    have c8 := hXX.cell hc HNI.out.1
    have H8 := Lib.hid (And.intro hrow8 (And.intro hE8 (And.intro hb8 (And.intro hra hXa))))
    clear hrow8 hE8 hb8 hra hXa hXX hX7 hwa
    try simp only [Act.put, List.setIfInBounds_toArray, List.set_cons_zero, List.set_cons_succ]
    refine wpTlG_step (by rfl) (fun K hK => ?_)
    go_simp
    refine hK _ _ (fun _ => H8.out.2.2.2.2.wide.trans H8.out.2.1) ?_
    clear hK K
    try simp only [Act.put, List.setIfInBounds_toArray, List.set_cons_zero, List.set_cons_succ]
    refine wpTlG_last (by rfl) ?_
    go_simp
    have H9 := Lib.hid (And.intro ((H5.out.1.ext1 H8.out.2.2.2.2).set H8.out.2.2.2.1 HR.out.2.1 H8.out.2.1 (fun q hq => .inl (by simpa using hq)) H8.out.2.2.1 (by simpa [flat_append] using H8.out.1) HMF2.out (by have := HR.out.2.2.1; simp; omega)) (H5.out.2.1))
    go_wp2
    refine Handed.intro (n - (j + 1)) ?measure ?_
    rotate_left
    go_step
    unfold HoI
    (repeat apply Exists.intro)
    refine ⟨?rel, rfl⟩
    case measure => have := HJ.out; omega
    case rel =>
      have hst := H9.out.1
      simp only [List.length_append, List.length_singleton] at hst
      exact ⟨j + 1, D2, _, Ds, by first | (rw [hwj]; rfl) | rfl, by have := HJ.out; omega, rfl, hst, (((H9.out.2.ext0 H8.out.2.2.2.2).ext H8.out.2.1 (fun q hq => by
        obtain ⟨cur, hcb, _⟩ := (H8.out.2.2.2.1.row k HR.out.2.1).blk
        simp at hq
        exact .inr ⟨cur, _, _, hq ▸ hcb⟩)).ext ((Ext.refl [b7] _).setCell (.inl (by simp)) _) (fun q hq => by
        simp at hq
        subst hq
        exact .inr ⟨_, _, _, H8.out.2.1.at H8.out.2.2.2.1.blk HNI.out.1⟩))⟩
  | false =>
    have HFL := Lib.hid (pm_Flush d lb sb ln D W0 H0.out.1.dev H0.out.1.ok)
    rw [show (D.flush ln).2 = 4 from by unfold Dv.flush; rw [hl]; rfl, show (D.flush ln).1 = D from by unfold Dv.flush; rw [hl]; rfl] at HFL
    clear hl
    go_wp2_with fail
    refine HFL.out.mono ?_
    rintro e w5 ⟨rfl, hD5, hE5⟩
    have H5 := Lib.hid (And.intro (H0.out.1.acted (hE5.sub (fun q hq => by simp at hq ⊢; omega)) hD5 H0.out.1.ok H0.out.1.may).more (H0.out.2.1.extD H0.out.1.dev (hE5.sub (fun q hq => by simp at hq ⊢; omega))))
    clear hD5 hE5 k0 k1 k2 k3 k4 HFL
    go_wp2_with fail
    refine (pm_num _ _).mono ?_
    rintro e w' ⟨rfl, rfl⟩
    go_wp2
    refine Handed.intro (n - (j + 1)) ?measure ?_
    rotate_left
    go_step
    unfold HoI
    (repeat apply Exists.intro)
    refine ⟨?rel, rfl⟩
    case measure => have := HJ.out; omega
    case rel => exact ⟨j + 1, D, M, Ds, by first | (rw [hwj]; rfl) | rfl, by have := HJ.out; omega, rfl, H5.out.1, H5.out.2⟩
end Go.Proofs.Ytfojmjkcjdehaaa
