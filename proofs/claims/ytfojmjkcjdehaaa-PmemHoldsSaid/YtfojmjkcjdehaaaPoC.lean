/- The walk of the law PmemHolds: the loop, and its first cases. -/
import Derived.Test.YtfojmjkcjdehaaaPoB
import Derived.Test.YtfojmjkcjdehaaaPnW
import Derived.Test.YtfojmjkcjdehaaaOrd
namespace Go.Proofs.Ytfojmjkcjdehaaa
open Go Go.RowKit Go.Shelf
attribute [local go_sem] Oper.semAt_some
/-- the outermost loops of a code -/
def outerLoops : Code → List Code
  | .loop c => [c]
  | .seq a b => outerLoops a ++ outerLoops b
  | .block _ c => outerLoops c
  | .scope c => outerLoops c
  | .cond _ a b => outerLoops a ++ outerLoops b
  | _ => []
noncomputable def hoBody : Code := (((Try.f7.body.map outerLoops).getD [])[1]?).getD .skip
set_option maxRecDepth 100000 in
/-- what holds at the second loop's head -/
def HoI (ao : Option Addr) (n cap : Nat) (mo : Option Addr) (mn mcap : Nat) (w : World) (d lb sb b7 : Nat) (gk : Nat) (a' : Act) (w' : World) : Prop := ∃ (defs : List Deferred) (u2 u3 u6 u8 u9 u10 u11 u12 u13 u14 u15 u16 u17 u18 u19 u20 u21 u22 u23 u24 u25 u26 u27 u28 u29 u30 u31 u32 u33 u34 u35 u36 u37 u38 u39 u40 u41 u42 u43 u44 u45 u46 u47 u48 u49 u50 u51 u52 u53 u54 u55 u56 u57 u58 u59 u60 u61 u62 u63 u64 u65 u66 u67 u68 u69 u70 u71 u72 u73 u74 u75 u76 u77 u78 u79 u80 u81 u82 u83 u84 u85 u86 u87 u88 u89 u90 u91 u92 u93 u94 u95 u96 u97 u98 u99 u100 u101 u102 u103 u104 u105 u106 u107 u108 u109 u110 u111 u112 u113 u114 u115 u116 u117 u118 u119 u120 u121 u122 u123 u124 u125 u126 u127 u128 u129 u130 u131 u132 u133 u134 u135 u136 u137 u138 u139 u140 u141 u142 u143 u144 u145 u146 u147 u148 u149 u150 u151 u152 u153 u154 u155 u156 u157 u158 u159 u160 u161 u162 u163 u164 u165 u166 u167 u168 u169 u170 u171 u172 u173 u174 u175 u176 u177 u178 u179 u180 u181 u182 u183 u184 u185 u186 u187 u188 u189 u190 u191 u192 u193 u194 u195 u196 u197 u198 u199 u200 u201 u202 u203 u204 u205 u206 u207 u208 u209 u210 u211 u212 u213 u214 u215 u216 u217 : Value), (∃ (j : Nat) (D : Dv) (M : Nat → List Wd) (Ds : List Nat), u9 = .int .i64 j ∧ j + gk = n ∧ defs = Ds.map (fun D => { target := .collected D, args := #[] }) ∧ HoSt w w' d lb sb b7 j D M ∧ MarkOk w w' Ds) ∧ a' = { tmps := #[.slice ao n cap, .slice mo mn mcap, u2, u3, .bool false, .pointer (some ⟨d, 0, none⟩), u6, .pointer (some ⟨b7, 0, none⟩), u8, u9, u10, u11, u12, u13, u14, u15, u16, u17, u18, u19, u20, u21, u22, u23, u24, u25, u26, u27, u28, u29, u30, u31, u32, u33, u34, u35, u36, u37, u38, u39, u40, u41, u42, u43, u44, u45, u46, u47, u48, u49, u50, u51, u52, u53, u54, u55, u56, u57, u58, u59, u60, u61, u62, u63, u64, u65, u66, u67, u68, u69, u70, u71, u72, u73, u74, u75, u76, u77, u78, u79, u80, u81, u82, u83, u84, u85, u86, u87, u88, u89, u90, u91, u92, u93, u94, u95, u96, u97, u98, u99, u100, u101, u102, u103, u104, u105, u106, u107, u108, u109, u110, u111, u112, u113, u114, u115, u116, u117, u118, u119, u120, u121, u122, u123, u124, u125, u126, u127, u128, u129, u130, u131, u132, u133, u134, u135, u136, u137, u138, u139, u140, u141, u142, u143, u144, u145, u146, u147, u148, u149, u150, u151, u152, u153, u154, u155, u156, u157, u158, u159, u160, u161, u162, u163, u164, u165, u166, u167, u168, u169, u170, u171, u172, u173, u174, u175, u176, u177, u178, u179, u180, u181, u182, u183, u184, u185, u186, u187, u188, u189, u190, u191, u192, u193, u194, u195, u196, u197, u198, u199, u200, u201, u202, u203, u204, u205, u206, u207, u208, u209, u210, u211, u212, u213, u214, u215, u216, u217], defers := defs }

set_option maxRecDepth 100000 in
set_option maxHeartbeats 8000000 in
theorem ho_arm1 (ao : Option Addr) (n cap : Nat) (mo : Option Addr) (mn mcap : Nat) (w : World) (d lb sb b7 : Nat) (A : Nat → PAct) (gk j : Nat) (D : Dv) (M : Nat → List Wd) (Ds : List Nat) {u2 u3 u6 u8 u10 u11 u12 u13 u14 u15 u16 u17 u18 u19 u20 u21 u22 u23 u24 u25 u26 u27 u28 u29 u30 u31 u32 u33 u34 u35 u36 u37 u38 u39 u40 u41 u42 u43 u44 u45 u46 u47 u48 u49 u50 u51 u52 u53 u54 u55 u56 u57 u58 u59 u60 u61 u62 u63 u64 u65 u66 u67 u68 u69 u70 u71 u72 u73 u74 u75 u76 u77 u78 u79 u80 u81 u82 u83 u84 u85 u86 u87 u88 u89 u90 u91 u92 u93 u94 u95 u96 u97 u98 u99 u100 u101 u102 u103 u104 u105 u106 u107 u108 u109 u110 u111 u112 u113 u114 u115 u116 u117 u118 u119 u120 u121 u122 u123 u124 u125 u126 u127 u128 u129 u130 u131 u132 u133 u134 u135 u136 u137 u138 u139 u140 u141 u142 u143 u144 u145 u146 u147 u148 u149 u150 u151 u152 u153 u154 u155 u156 u157 u158 u159 u160 u161 u162 u163 u164 u165 u166 u167 u168 u169 u170 u171 u172 u173 u174 u175 u176 u177 u178 u179 u180 u181 u182 u183 u184 u185 u186 u187 u188 u189 u190 u191 u192 u193 u194 u195 u196 u197 u198 u199 u200 u201 u202 u203 u204 u205 u206 u207 u208 u209 u210 u211 u212 u213 u214 u215 u216 u217 : Value} (wr : World)
    (HP : Hid (PActs w ao n A ∧ ∀ i, i < n → (A i).n ≤ 9223372036854775807)) (hst : HoSt w wr d lb sb b7 j D M) (hmk : MarkOk w wr Ds) (hj : j + gk = n) (hlt : j < n) (hn40 : n ≤ 40) (hwhat : (A j).what = 1)
    (J0 : Nat → Act → World → Prop) (K0 : Act → World → Prop) (hJ0 : ∀ k a' w', HoI ao n cap mo mn mcap w d lb sb b7 k a' w' → J0 k a' w') (hK0 : ∀ a' w', Handed J0 gk a' w' → K0 a' w') (Q0 : Exit → Act → World → Prop) (_hQ0 : ∀ c a w, ¬ Q0 (.panic c) a w) :
    Code.wp Try.prog hoBody (Exit.then K0 Q0) { tmps := #[.slice ao n cap, .slice mo mn mcap, u2, u3, .bool false, .pointer (some ⟨d, 0, none⟩), u6, .pointer (some ⟨b7, 0, none⟩), u8, .int .i64 j, u10, u11, u12, u13, u14, u15, u16, u17, u18, u19, u20, u21, u22, u23, u24, u25, u26, u27, u28, u29, u30, u31, u32, u33, u34, u35, u36, u37, u38, u39, u40, u41, u42, u43, u44, u45, u46, u47, u48, u49, u50, u51, u52, u53, u54, u55, u56, u57, u58, u59, u60, u61, u62, u63, u64, u65, u66, u67, u68, u69, u70, u71, u72, u73, u74, u75, u76, u77, u78, u79, u80, u81, u82, u83, u84, u85, u86, u87, u88, u89, u90, u91, u92, u93, u94, u95, u96, u97, u98, u99, u100, u101, u102, u103, u104, u105, u106, u107, u108, u109, u110, u111, u112, u113, u114, u115, u116, u117, u118, u119, u120, u121, u122, u123, u124, u125, u126, u127, u128, u129, u130, u131, u132, u133, u134, u135, u136, u137, u138, u139, u140, u141, u142, u143, u144, u145, u146, u147, u148, u149, u150, u151, u152, u153, u154, u155, u156, u157, u158, u159, u160, u161, u162, u163, u164, u165, u166, u167, u168, u169, u170, u171, u172, u173, u174, u175, u176, u177, u178, u179, u180, u181, u182, u183, u184, u185, u186, u187, u188, u189, u190, u191, u192, u193, u194, u195, u196, u197, u198, u199, u200, u201, u202, u203, u204, u205, u206, u207, u208, u209, u210, u211, u212, u213, u214, u215, u216, u217], defers := Ds.map (fun D => { target := .collected D, args := #[] }) } wr := by
  conv => arg 2; whnf
  have HST := Lib.hid (And.intro hst hmk)
  clear hst hmk
  obtain ⟨b, off, rfl, x0, x1, x2, x3, x4, x5, x6⟩ : ∃ b off, ao = some ⟨b, off, none⟩ ∧ wr.cell? ⟨b, off + j * 6, none⟩ = some (.int .i64 (A j).what) ∧ wr.cell? ⟨b, off + j * 6 + 1, none⟩ = some (.int .i64 (A j).at') ∧ wr.cell? ⟨b, off + j * 6 + 2, none⟩ = some (.int .i64 (A j).line) ∧ wr.cell? ⟨b, off + j * 6 + 3, none⟩ = some (.int .u64 (A j).wd) ∧ wr.cell? ⟨b, off + j * 6 + 4, none⟩ = some (.int .u64 (A j).fr) ∧ wr.cell? ⟨b, off + j * 6 + 5, none⟩ = some (.slice (A j).bo (A j).n (A j).cap) ∧ True := by
    rcases HP.out.1.ext HST.out.1.ext with h | ⟨b, off, h1, h2⟩
    · omega
    · obtain ⟨a0, a1, a2, a3, a4, a5, _⟩ := h2 j hlt
      exact ⟨b, off, h1, a0, a1, a2, a3, a4, a5, trivial⟩
  have hi0 : (0 : Int) ≤ (j : Int) := by omega
  have hi1 : (j : Int) < (n : Int) := by omega
  have hwj : wrap64 ((j : Int) + 1) = (j : Int) + 1 := IntWalk.wrap64_in _ (by omega)
  have HJ := Lib.hid (And.intro hj (And.intro hlt hn40))
  clear hj hlt hn40 x6
  generalize A j = x at *
  obtain ⟨what, at0, ln, wd, fr, bo, bn, bc, Mb⟩ := x
  dsimp only at *
  subst hwhat
  go_upto_region 15 with fail
  obtain ⟨W0, hW0⟩ : ∃ W0, wr.alloc (.cells #[.int .i64 1, .int .i64 at0, .int .i64 ln, .int .u64 wd, .int .u64 fr, .slice bo bn bc] 39) = W0 := ⟨_, rfl⟩
  obtain ⟨b10, hb10⟩ : ∃ b10, wr.heap.size = b10 := ⟨_, rfl⟩
  have H0 : Hid (HoSt w W0 d lb sb b7 j D M ∧ MarkOk w W0 Ds ∧ W0.heap[b10]? = some (.cells #[.int .i64 1, .int .i64 at0, .int .i64 ln, .int .u64 wd, .int .u64 fr, .slice bo bn bc] 39 (0, 0)) ∧ Ext [] wr W0) := by
    have hE : Ext [] wr W0 := by rw [← hW0]; exact (Ext.refl _ _).alloc _
    exact ⟨HST.out.1.ext1 hE, HST.out.2.ext0 hE, by rw [← hW0, ← hb10]; exact World.alloc_heap_new _ _, hE⟩
  try rw [hW0]
  try rw [hb10]
  clear hW0 hb10 x0 x1 x2 x3 x4 x5
  have k0 := cell_of (j := 0) (v := .int .i64 1) H0.out.2.2.1 rfl
  have k1 := cell_of (j := 1) (v := .int .i64 at0) H0.out.2.2.1 rfl
  have k2 := cell_of (j := 2) (v := .int .i64 ln) H0.out.2.2.1 rfl
  have k3 := cell_of (j := 3) (v := .int .u64 wd) H0.out.2.2.1 rfl
  have k4 := cell_of (j := 4) (v := .int .u64 fr) H0.out.2.2.1 rfl
  go_wp2_with fail
  refine (pm_Store d lb sb at0 wd D W0 H0.out.1.dev H0.out.1.ok).mono ?_
  rintro e w5 ⟨rfl, hD5, hE5⟩
  have H5 := Lib.hid (And.intro (H0.out.1.acted (hE5.sub (fun q hq => by simp at hq ⊢; omega)) hD5 (Dv.store_ok H0.out.1.ok _ _) (H0.out.1.may.store at0 wd)).more (H0.out.2.1.extD H0.out.1.dev (hE5.sub (fun q hq => by simp at hq ⊢; omega))))
  clear hD5 hE5 k0 k1 k2 k3 k4
  go_wp2
  refine Handed.intro (n - (j + 1)) ?measure ?_
  rotate_left
  go_step
  unfold HoI
  (repeat apply Exists.intro)
  refine ⟨?rel, rfl⟩
  case measure => have := HJ.out; omega
  case rel => exact ⟨j + 1, _, M, Ds, by first | (rw [hwj]; rfl) | rfl, by have := HJ.out; omega, rfl, H5.out.1, H5.out.2⟩

set_option maxRecDepth 100000 in
set_option maxHeartbeats 8000000 in
theorem ho_arm2 (ao : Option Addr) (n cap : Nat) (mo : Option Addr) (mn mcap : Nat) (w : World) (d lb sb b7 : Nat) (A : Nat → PAct) (gk j : Nat) (D : Dv) (M : Nat → List Wd) (Ds : List Nat) {u2 u3 u6 u8 u10 u11 u12 u13 u14 u15 u16 u17 u18 u19 u20 u21 u22 u23 u24 u25 u26 u27 u28 u29 u30 u31 u32 u33 u34 u35 u36 u37 u38 u39 u40 u41 u42 u43 u44 u45 u46 u47 u48 u49 u50 u51 u52 u53 u54 u55 u56 u57 u58 u59 u60 u61 u62 u63 u64 u65 u66 u67 u68 u69 u70 u71 u72 u73 u74 u75 u76 u77 u78 u79 u80 u81 u82 u83 u84 u85 u86 u87 u88 u89 u90 u91 u92 u93 u94 u95 u96 u97 u98 u99 u100 u101 u102 u103 u104 u105 u106 u107 u108 u109 u110 u111 u112 u113 u114 u115 u116 u117 u118 u119 u120 u121 u122 u123 u124 u125 u126 u127 u128 u129 u130 u131 u132 u133 u134 u135 u136 u137 u138 u139 u140 u141 u142 u143 u144 u145 u146 u147 u148 u149 u150 u151 u152 u153 u154 u155 u156 u157 u158 u159 u160 u161 u162 u163 u164 u165 u166 u167 u168 u169 u170 u171 u172 u173 u174 u175 u176 u177 u178 u179 u180 u181 u182 u183 u184 u185 u186 u187 u188 u189 u190 u191 u192 u193 u194 u195 u196 u197 u198 u199 u200 u201 u202 u203 u204 u205 u206 u207 u208 u209 u210 u211 u212 u213 u214 u215 u216 u217 : Value} (wr : World)
    (HP : Hid (PActs w ao n A ∧ ∀ i, i < n → (A i).n ≤ 9223372036854775807)) (hst : HoSt w wr d lb sb b7 j D M) (hmk : MarkOk w wr Ds) (hj : j + gk = n) (hlt : j < n) (hn40 : n ≤ 40) (hwhat : (A j).what = 2)
    (J0 : Nat → Act → World → Prop) (K0 : Act → World → Prop) (hJ0 : ∀ k a' w', HoI ao n cap mo mn mcap w d lb sb b7 k a' w' → J0 k a' w') (hK0 : ∀ a' w', Handed J0 gk a' w' → K0 a' w') (Q0 : Exit → Act → World → Prop) (_hQ0 : ∀ c a w, ¬ Q0 (.panic c) a w) :
    Code.wp Try.prog hoBody (Exit.then K0 Q0) { tmps := #[.slice ao n cap, .slice mo mn mcap, u2, u3, .bool false, .pointer (some ⟨d, 0, none⟩), u6, .pointer (some ⟨b7, 0, none⟩), u8, .int .i64 j, u10, u11, u12, u13, u14, u15, u16, u17, u18, u19, u20, u21, u22, u23, u24, u25, u26, u27, u28, u29, u30, u31, u32, u33, u34, u35, u36, u37, u38, u39, u40, u41, u42, u43, u44, u45, u46, u47, u48, u49, u50, u51, u52, u53, u54, u55, u56, u57, u58, u59, u60, u61, u62, u63, u64, u65, u66, u67, u68, u69, u70, u71, u72, u73, u74, u75, u76, u77, u78, u79, u80, u81, u82, u83, u84, u85, u86, u87, u88, u89, u90, u91, u92, u93, u94, u95, u96, u97, u98, u99, u100, u101, u102, u103, u104, u105, u106, u107, u108, u109, u110, u111, u112, u113, u114, u115, u116, u117, u118, u119, u120, u121, u122, u123, u124, u125, u126, u127, u128, u129, u130, u131, u132, u133, u134, u135, u136, u137, u138, u139, u140, u141, u142, u143, u144, u145, u146, u147, u148, u149, u150, u151, u152, u153, u154, u155, u156, u157, u158, u159, u160, u161, u162, u163, u164, u165, u166, u167, u168, u169, u170, u171, u172, u173, u174, u175, u176, u177, u178, u179, u180, u181, u182, u183, u184, u185, u186, u187, u188, u189, u190, u191, u192, u193, u194, u195, u196, u197, u198, u199, u200, u201, u202, u203, u204, u205, u206, u207, u208, u209, u210, u211, u212, u213, u214, u215, u216, u217], defers := Ds.map (fun D => { target := .collected D, args := #[] }) } wr := by
  conv => arg 2; whnf
  have HST := Lib.hid (And.intro hst hmk)
  clear hst hmk
  obtain ⟨b, off, rfl, x0, x1, x2, x3, x4, x5, x6⟩ : ∃ b off, ao = some ⟨b, off, none⟩ ∧ wr.cell? ⟨b, off + j * 6, none⟩ = some (.int .i64 (A j).what) ∧ wr.cell? ⟨b, off + j * 6 + 1, none⟩ = some (.int .i64 (A j).at') ∧ wr.cell? ⟨b, off + j * 6 + 2, none⟩ = some (.int .i64 (A j).line) ∧ wr.cell? ⟨b, off + j * 6 + 3, none⟩ = some (.int .u64 (A j).wd) ∧ wr.cell? ⟨b, off + j * 6 + 4, none⟩ = some (.int .u64 (A j).fr) ∧ wr.cell? ⟨b, off + j * 6 + 5, none⟩ = some (.slice (A j).bo (A j).n (A j).cap) ∧ True := by
    rcases HP.out.1.ext HST.out.1.ext with h | ⟨b, off, h1, h2⟩
    · omega
    · obtain ⟨a0, a1, a2, a3, a4, a5, _⟩ := h2 j hlt
      exact ⟨b, off, h1, a0, a1, a2, a3, a4, a5, trivial⟩
  have hi0 : (0 : Int) ≤ (j : Int) := by omega
  have hi1 : (j : Int) < (n : Int) := by omega
  have hwj : wrap64 ((j : Int) + 1) = (j : Int) + 1 := IntWalk.wrap64_in _ (by omega)
  have HJ := Lib.hid (And.intro hj (And.intro hlt hn40))
  clear hj hlt hn40 x6
  generalize A j = x at *
  obtain ⟨what, at0, ln, wd, fr, bo, bn, bc, Mb⟩ := x
  dsimp only at *
  subst hwhat
  go_upto_region 15 with fail
  obtain ⟨W0, hW0⟩ : ∃ W0, wr.alloc (.cells #[.int .i64 2, .int .i64 at0, .int .i64 ln, .int .u64 wd, .int .u64 fr, .slice bo bn bc] 39) = W0 := ⟨_, rfl⟩
  obtain ⟨b10, hb10⟩ : ∃ b10, wr.heap.size = b10 := ⟨_, rfl⟩
  have H0 : Hid (HoSt w W0 d lb sb b7 j D M ∧ MarkOk w W0 Ds ∧ W0.heap[b10]? = some (.cells #[.int .i64 2, .int .i64 at0, .int .i64 ln, .int .u64 wd, .int .u64 fr, .slice bo bn bc] 39 (0, 0)) ∧ Ext [] wr W0) := by
    have hE : Ext [] wr W0 := by rw [← hW0]; exact (Ext.refl _ _).alloc _
    exact ⟨HST.out.1.ext1 hE, HST.out.2.ext0 hE, by rw [← hW0, ← hb10]; exact World.alloc_heap_new _ _, hE⟩
  try rw [hW0]
  try rw [hb10]
  clear hW0 hb10 x0 x1 x2 x3 x4 x5
  have k0 := cell_of (j := 0) (v := .int .i64 2) H0.out.2.2.1 rfl
  have k1 := cell_of (j := 1) (v := .int .i64 at0) H0.out.2.2.1 rfl
  have k2 := cell_of (j := 2) (v := .int .i64 ln) H0.out.2.2.1 rfl
  have k3 := cell_of (j := 3) (v := .int .u64 wd) H0.out.2.2.1 rfl
  have k4 := cell_of (j := 4) (v := .int .u64 fr) H0.out.2.2.1 rfl
  go_wp2_with fail
  refine (pm_Swap d lb sb at0 fr wd D W0 H0.out.1.dev H0.out.1.ok).mono ?_
  rintro e w5 ⟨rfl, hD5, hE5⟩
  have H5 := Lib.hid (And.intro (H0.out.1.acted (hE5.sub (fun q hq => by simp at hq ⊢; omega)) hD5 (Dv.swap_ok H0.out.1.ok _ _ _) (H0.out.1.may.swap at0 fr wd)).more (H0.out.2.1.extD H0.out.1.dev (hE5.sub (fun q hq => by simp at hq ⊢; omega))))
  clear hD5 hE5 k0 k1 k2 k3 k4
  go_wp2
  refine Handed.intro (n - (j + 1)) ?measure ?_
  rotate_left
  go_step
  unfold HoI
  (repeat apply Exists.intro)
  refine ⟨?rel, rfl⟩
  case measure => have := HJ.out; omega
  case rel => exact ⟨j + 1, _, M, Ds, by first | (rw [hwj]; rfl) | rfl, by have := HJ.out; omega, rfl, H5.out.1, H5.out.2⟩

set_option maxRecDepth 100000 in
set_option maxHeartbeats 8000000 in
theorem ho_else (ao : Option Addr) (n cap : Nat) (mo : Option Addr) (mn mcap : Nat) (w : World) (d lb sb b7 : Nat) (A : Nat → PAct) (gk j : Nat) (D : Dv) (M : Nat → List Wd) (Ds : List Nat) {u2 u3 u6 u8 u10 u11 u12 u13 u14 u15 u16 u17 u18 u19 u20 u21 u22 u23 u24 u25 u26 u27 u28 u29 u30 u31 u32 u33 u34 u35 u36 u37 u38 u39 u40 u41 u42 u43 u44 u45 u46 u47 u48 u49 u50 u51 u52 u53 u54 u55 u56 u57 u58 u59 u60 u61 u62 u63 u64 u65 u66 u67 u68 u69 u70 u71 u72 u73 u74 u75 u76 u77 u78 u79 u80 u81 u82 u83 u84 u85 u86 u87 u88 u89 u90 u91 u92 u93 u94 u95 u96 u97 u98 u99 u100 u101 u102 u103 u104 u105 u106 u107 u108 u109 u110 u111 u112 u113 u114 u115 u116 u117 u118 u119 u120 u121 u122 u123 u124 u125 u126 u127 u128 u129 u130 u131 u132 u133 u134 u135 u136 u137 u138 u139 u140 u141 u142 u143 u144 u145 u146 u147 u148 u149 u150 u151 u152 u153 u154 u155 u156 u157 u158 u159 u160 u161 u162 u163 u164 u165 u166 u167 u168 u169 u170 u171 u172 u173 u174 u175 u176 u177 u178 u179 u180 u181 u182 u183 u184 u185 u186 u187 u188 u189 u190 u191 u192 u193 u194 u195 u196 u197 u198 u199 u200 u201 u202 u203 u204 u205 u206 u207 u208 u209 u210 u211 u212 u213 u214 u215 u216 u217 : Value} (wr : World)
    (HP : Hid (PActs w ao n A ∧ ∀ i, i < n → (A i).n ≤ 9223372036854775807)) (hst : HoSt w wr d lb sb b7 j D M) (hmk : MarkOk w wr Ds) (hj : j + gk = n) (hlt : j < n) (hn40 : n ≤ 40) (h1 : ¬ (A j).what = 1) (h2 : ¬ (A j).what = 2) (h3 : ¬ (A j).what = 3) (h4 : ¬ (A j).what = 4) (h5 : ¬ (A j).what = 5)
    (J0 : Nat → Act → World → Prop) (K0 : Act → World → Prop) (hJ0 : ∀ k a' w', HoI ao n cap mo mn mcap w d lb sb b7 k a' w' → J0 k a' w') (hK0 : ∀ a' w', Handed J0 gk a' w' → K0 a' w') (Q0 : Exit → Act → World → Prop) (_hQ0 : ∀ c a w, ¬ Q0 (.panic c) a w) :
    Code.wp Try.prog hoBody (Exit.then K0 Q0) { tmps := #[.slice ao n cap, .slice mo mn mcap, u2, u3, .bool false, .pointer (some ⟨d, 0, none⟩), u6, .pointer (some ⟨b7, 0, none⟩), u8, .int .i64 j, u10, u11, u12, u13, u14, u15, u16, u17, u18, u19, u20, u21, u22, u23, u24, u25, u26, u27, u28, u29, u30, u31, u32, u33, u34, u35, u36, u37, u38, u39, u40, u41, u42, u43, u44, u45, u46, u47, u48, u49, u50, u51, u52, u53, u54, u55, u56, u57, u58, u59, u60, u61, u62, u63, u64, u65, u66, u67, u68, u69, u70, u71, u72, u73, u74, u75, u76, u77, u78, u79, u80, u81, u82, u83, u84, u85, u86, u87, u88, u89, u90, u91, u92, u93, u94, u95, u96, u97, u98, u99, u100, u101, u102, u103, u104, u105, u106, u107, u108, u109, u110, u111, u112, u113, u114, u115, u116, u117, u118, u119, u120, u121, u122, u123, u124, u125, u126, u127, u128, u129, u130, u131, u132, u133, u134, u135, u136, u137, u138, u139, u140, u141, u142, u143, u144, u145, u146, u147, u148, u149, u150, u151, u152, u153, u154, u155, u156, u157, u158, u159, u160, u161, u162, u163, u164, u165, u166, u167, u168, u169, u170, u171, u172, u173, u174, u175, u176, u177, u178, u179, u180, u181, u182, u183, u184, u185, u186, u187, u188, u189, u190, u191, u192, u193, u194, u195, u196, u197, u198, u199, u200, u201, u202, u203, u204, u205, u206, u207, u208, u209, u210, u211, u212, u213, u214, u215, u216, u217], defers := Ds.map (fun D => { target := .collected D, args := #[] }) } wr := by
  conv => arg 2; whnf
  have HST := Lib.hid (And.intro hst hmk)
  clear hst hmk
  obtain ⟨b, off, rfl, x0, x1, x2, x3, x4, x5, x6⟩ : ∃ b off, ao = some ⟨b, off, none⟩ ∧ wr.cell? ⟨b, off + j * 6, none⟩ = some (.int .i64 (A j).what) ∧ wr.cell? ⟨b, off + j * 6 + 1, none⟩ = some (.int .i64 (A j).at') ∧ wr.cell? ⟨b, off + j * 6 + 2, none⟩ = some (.int .i64 (A j).line) ∧ wr.cell? ⟨b, off + j * 6 + 3, none⟩ = some (.int .u64 (A j).wd) ∧ wr.cell? ⟨b, off + j * 6 + 4, none⟩ = some (.int .u64 (A j).fr) ∧ wr.cell? ⟨b, off + j * 6 + 5, none⟩ = some (.slice (A j).bo (A j).n (A j).cap) ∧ True := by
    rcases HP.out.1.ext HST.out.1.ext with h | ⟨b, off, h1, h2⟩
    · omega
    · obtain ⟨a0, a1, a2, a3, a4, a5, _⟩ := h2 j hlt
      exact ⟨b, off, h1, a0, a1, a2, a3, a4, a5, trivial⟩
  have hi0 : (0 : Int) ≤ (j : Int) := by omega
  have hi1 : (j : Int) < (n : Int) := by omega
  have hwj : wrap64 ((j : Int) + 1) = (j : Int) + 1 := IntWalk.wrap64_in _ (by omega)
  have HJ := Lib.hid (And.intro hj (And.intro hlt hn40))
  clear hj hlt hn40 x6
  generalize A j = x at *
  obtain ⟨what, at0, ln, wd, fr, bo, bn, bc, Mb⟩ := x
  dsimp only at *
  have HW5 := Lib.hid (And.intro h1 (And.intro h2 (And.intro h3 (And.intro h4 h5))))
  clear h1 h2 h3 h4 h5
  go_upto_region 15 with fail
  obtain ⟨W0, hW0⟩ : ∃ W0, wr.alloc (.cells #[.int .i64 what, .int .i64 at0, .int .i64 ln, .int .u64 wd, .int .u64 fr, .slice bo bn bc] 39) = W0 := ⟨_, rfl⟩
  obtain ⟨b10, hb10⟩ : ∃ b10, wr.heap.size = b10 := ⟨_, rfl⟩
  have H0 : Hid (HoSt w W0 d lb sb b7 j D M ∧ MarkOk w W0 Ds ∧ W0.heap[b10]? = some (.cells #[.int .i64 what, .int .i64 at0, .int .i64 ln, .int .u64 wd, .int .u64 fr, .slice bo bn bc] 39 (0, 0)) ∧ Ext [] wr W0) := by
    have hE : Ext [] wr W0 := by rw [← hW0]; exact (Ext.refl _ _).alloc _
    exact ⟨HST.out.1.ext1 hE, HST.out.2.ext0 hE, by rw [← hW0, ← hb10]; exact World.alloc_heap_new _ _, hE⟩
  try rw [hW0]
  try rw [hb10]
  clear hW0 hb10 x0 x1 x2 x3 x4 x5
  have k0 := cell_of (j := 0) (v := .int .i64 what) H0.out.2.2.1 rfl
  have k1 := cell_of (j := 1) (v := .int .i64 at0) H0.out.2.2.1 rfl
  have k2 := cell_of (j := 2) (v := .int .i64 ln) H0.out.2.2.1 rfl
  have k3 := cell_of (j := 3) (v := .int .u64 wd) H0.out.2.2.1 rfl
  have k4 := cell_of (j := 4) (v := .int .u64 fr) H0.out.2.2.1 rfl
  obtain ⟨h1, h2, h3, h4, h5⟩ := HW5.out
  have g1 : (what == 1) = false := by simpa using h1
  have g2 : (what == 2) = false := by simpa using h2
  have g3 : (what == 3) = false := by simpa using h3
  have g4 : (what == 4) = false := by simpa using h4
  have g5 : (what == 5) = false := by simpa using h5
  have H5 := Lib.hid (And.intro H0.out.1.more H0.out.2.1)
  clear k1 k2 k3 k4
  go_wp2
  refine Handed.intro (n - (j + 1)) ?measure ?_
  rotate_left
  go_step
  unfold HoI
  (repeat apply Exists.intro)
  refine ⟨?rel, rfl⟩
  case measure => have := HJ.out; omega
  case rel => exact ⟨j + 1, D, M, Ds, by first | (rw [hwj]; rfl) | rfl, by have := HJ.out; omega, rfl, H5.out.1, H5.out.2⟩
end Go.Proofs.Ytfojmjkcjdehaaa
