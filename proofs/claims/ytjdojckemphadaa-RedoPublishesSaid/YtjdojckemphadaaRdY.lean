/- redo.Publish. -/
import Derived.Test.YtjdojckemphadaaRdX
import Derived.Test.YtjdojckemphadaaRcz
namespace Go.Proofs.Ytjdojckemphadaa
open Go Go.RowKit Go.Shelf
attribute [local go_sem] Oper.semAt_some

/-- the touches that publish puts -/
def pubT (j : Int) (n : Nat) (P : Nat → Int × Int) : List Tch := if n = 1 then appT n P else wrT j (packW n P) ++ fstT j (packW n P 0) ++ appT n P ++ fstT j 0
/-- what Publish answers -/
def pubE (j : Int) (n : Nat) (P : Nat → Int × Int) : List Tch × Int :=
  if jOk j = true ∧ anyP (fun q => jHas j q.1) P n = false then (if checkE P n = 0 then (pubT j n P, 0) else ([], checkE P n)) else ([], 2)
def PubPost (w : World) (C : List Tch × Int) (e : Ending) (w' : World) : Prop := ∃ v, e = .returned (.tuple #[v, .int .i64 C.2]) ∧ Ext [] w w' ∧ TcOwn w' w.heap.size v C.1
/-- the journal's box, and the record's words -/
structure PbS (w W : World) (tb jb ab : Nat) (j : Int) (F : Nat → Int) (T : List Tch) : Prop where
  tbs : TB w W tb T
  jbx : W.heap[jb]? = some (.cells #[.int .i64 j] 47 (0, 0))
  arr : W.heap[ab]? = some (.cells (arrF 24 F) 49 (0, 0))
theorem PbS.step {w W W' : World} {tb jb ab : Nat} {j : Int} {F : Nat → Int} {T T' : List Tch} {e : Ending} (h : PbS w W tb jb ab j F T) (h1 : jb ≠ tb) (h2 : ab ≠ tb) (hp : ThPost w W tb T' e W') : PbS w W' tb jb ab j F T' :=
  ⟨hp.2.1, hp.2.2.block _ _ h.jbx h1 (fun cur f e => by simp at e), hp.2.2.block _ _ h.arr h2 (fun cur f e => by simp at e)⟩
theorem PbS.words {w W W' : World} {tb jb ab : Nat} {j : Int} {F G : Nat → Int} {T : List Tch} (h : PbS w W tb jb ab j F T) (h1 : ab ≠ tb) (h2 : jb ≠ ab) (h3 : w.heap.size ≤ ab) (hE : Ext [ab] W W') (hb : W'.heap[ab]? = some (.cells (arrF 24 G) 49 (0, 0))) : PbS w W' tb jb ab j G T := by
  obtain ⟨v, hv, hO⟩ := h.tbs.has
  refine ⟨⟨h.tbs.ex.trans' hE (fun i hi => .inr (by simp at hi; omega)), v, hE.at hv (by simpa using fun e => h1 e.symm), owns_ext hO hE (fun g hg hm => ?_)⟩, hE.at h.jbx (by simpa using h2), hb⟩
  obtain ⟨cur, f, h4⟩ := own_touch hO hg
  simp at hm
  rw [hm, h.arr] at h4
  simp at h4
theorem PbS.arrAt {w W : World} {tb jb ab : Nat} {j : Int} {F : Nat → Int} {T : List Tch} (h : PbS w W tb jb ab j F T) : ArrAt W ab F := ⟨_, by decide, h.arr⟩
theorem PbS.ext0 {w W W' : World} {tb jb ab : Nat} {j : Int} {F : Nat → Int} {T : List Tch} (h : PbS w W tb jb ab j F T) (hE : Ext [] W W') : PbS w W' tb jb ab j F T :=
  ⟨h.tbs.ext0 hE, hE.at h.jbx (by simp), hE.at h.arr (by simp)⟩

set_option maxRecDepth 100000 in
set_option maxHeartbeats 8000000 in
theorem rd_Publish (j : Int) (ao : Option Addr) (n cap : Nat) (P : Nat → Int × Int) (w : World) (hp : Puts w ao n P) (hn : n ≤ 9223372036854775807) :
    Calls Try.prog 6 #[.int .i64 j, .slice ao n cap] w (PubPost w (pubE j n P)) := by
  obtain ⟨WA, hWA⟩ : ∃ W, ((w.alloc (.cells #[.int .i64 j] 47)).alloc (.cells #[] 44)).alloc (.cells #[.slice (some ⟨w.heap.size + 1, 0, none⟩) 0 0] 48) = W := ⟨_, rfl⟩
  obtain ⟨jb, hjb⟩ : ∃ b, w.heap.size = b := ⟨_, rfl⟩
  have hbs := al3_heap (w := w) #[.int .i64 j] #[] #[.slice (some ⟨w.heap.size + 1, 0, none⟩) 0 0] 47 44 48
  have hEA : Ext [] w WA := by rw [← hWA]; exact (((Ext.refl _ _).alloc _).alloc _).alloc _
  have hsA : WA.heap.size = jb + 3 := by rw [← hWA]; simp [hjb]
  rw [hWA, hjb] at hbs
  have HA := Lib.hid (And.intro hEA (And.intro hbs (And.intro hsA (And.intro hp (And.intro hn hjb)))))
  have HWE := Lib.hid (And.intro hWA (And.intro hjb hsA))
  clear hWA hjb hbs hEA hsA hp hn
  go_enter Try.func6, Try.ntmps6
  go_wp2_with fail
  refine wp_scope_ahead 0 rfl ?_
  go_upto_region 3 with fail
  try rw [HWE.out.1]
  try rw [HWE.out.2.1]
  go_upto_region 4 with ((with_reducible refine store25z (g := WA.heap.size) (G := fun _ => 0) ?_ ?_ ?_ ?_); exact rfl; exact rfl; exact congrArg Value.agg arr0.symm; intro W1 hE1 hs1 hb1; clear hs1)
  try rw [HWE.out.2.2]
  rw [HWE.out.2.2] at hb1
  rw [show jb + 1 + 1 = jb + 2 from rfl]
  obtain ⟨tb, htb⟩ : ∃ b, jb + 2 = b := ⟨_, rfl⟩
  obtain ⟨ab, hab⟩ : ∃ b, jb + 3 = b := ⟨_, rfl⟩
  have hS : PbS w W1 tb jb ab j (fun _ => 0) [] := by
    obtain ⟨b1, b2, b3, _⟩ := HA.out.2.1
    rw [htb] at b3
    rw [hab] at hb1
    refine ⟨⟨(HA.out.1.trans hE1).mono (fun j hj => by cases hj), _, hE1.at b3 (by simp), ?_⟩, hE1.at b1 (by simp), hb1⟩
    exact owns_empty (hE1.at b2 (by simp)) (by have := HA.out.2.2.2.2.2; omega)
  have hEw : Ext [] w W1 := HA.out.1.trans hE1
  rw [htb, hab]
  have HB := Lib.hid (And.intro hS (And.intro hEw (And.intro (show jb ≠ tb by omega) (And.intro (show ab ≠ tb by omega) (show w.heap.size ≤ tb ∧ w.heap.size = jb by have := HA.out.2.2.2.2.2; omega)))))
  have HPN := Lib.hid (And.intro HA.out.2.2.2.1 HA.out.2.2.2.2.1)
  have k6 := cell_of (j := 0) (v := .int .i64 j) hS.jbx rfl
  have hcf := enters_of Try.func15 (by kernel_rfl) rfl
  clear hS hEw hE1 hb1 HA HWE
  cases hjo : jOk j with
  | false =>
    have HR := Lib.hid (fun w => rd_right j w)
    rw [hjo] at HR
    have hpe : pubE j n P = ([], 2) := by unfold pubE; rw [if_neg (fun h => by rw [hjo] at h; cases h.1)]
    have HPE := Lib.hid hpe
    clear hjo hpe
    go_wp2_with fail
    refine (HR.out _).mono ?_
    rintro e w' ⟨rfl, rfl⟩
    go_wp2
    go_step3
    refine ⟨rfl, ?_⟩
    go_wp2
    rw [Exit.noGoto_ret]
    go_ret2
    rw [HPE.out]
    exact ⟨_, rfl, HB.out.2.1, TcOwn.nil _ _⟩
  | true =>
    have hjj : 0 ≤ j ∧ j ≤ 1021 := by unfold jOk at hjo; simpa using hjo
    have HR := Lib.hid (fun w => rd_right j w)
    rw [hjo] at HR
    have HJ := Lib.hid hjj
    have HH := Lib.hid (pu_has 15 #[.pointer (some ⟨jb, 0, none⟩)] (fun q => jHas j q.1) (fun W => W.heap[jb]? = some (.cells #[.int .i64 j] 47 (0, 0))) ao n cap P W1 (HPN.out.1.ext HB.out.2.1) HPN.out.2 (fun W W' h hE => hE.at h (by simp)) HB.out.1.jbx (fun args w' => enters_of Try.func15 (by kernel_rfl) rfl args w') (fun W h q => rd_in j jb q W hjj h))
    have hpe : pubE j n P = if anyP (fun q => jHas j q.1) P n = false then (if checkE P n = 0 then (pubT j n P, 0) else ([], checkE P n)) else ([], 2) := by
      unfold pubE
      by_cases h : anyP (fun q => jHas j q.1) P n = false
      · rw [if_pos ⟨hjo, h⟩, if_pos h]
      · rw [if_neg (fun h2 => h h2.2), if_neg h]
    obtain ⟨B, hB⟩ : ∃ B, anyP (fun q => jHas j q.1) P n = B := ⟨_, rfl⟩
    rw [hB] at HH hpe
    have HPE := Lib.hid hpe
    clear hjo hjj hpe hB
    go_wp2_with fail
    refine (HR.out _).mono ?_
    rintro e w' ⟨rfl, rfl⟩
    go_wp2_with fail
    refine HH.out.mono ?_
    rintro e W2 ⟨rfl, hE2⟩
    have H2 := Lib.hid (And.intro (HB.out.1.ext0 hE2) (HB.out.2.1.trans hE2))
    clear hE2 hcf k6
    cases B with
    | true =>
      go_wp2
      go_step3
      refine ⟨rfl, ?_⟩
      go_wp2
      rw [Exit.noGoto_ret]
      go_ret2
      rw [HPE.out]
      exact ⟨_, rfl, H2.out.2, TcOwn.nil _ _⟩
    | false =>
      go_wp2_with fail
      refine (rc_pack ao n cap P W2 (HPN.out.1.ext H2.out.2) HPN.out.2).mono ?_
      rintro e W3 ⟨rfl, hE3⟩
      have H3 := Lib.hid (And.intro (H2.out.1.ext0 hE3) (H2.out.2.trans hE3))
      have p3 := H3.out.1.arr
      have p6 := cell_of (j := 0) (v := .int .i64 j) H3.out.1.jbx rfl
      clear hE3
      by_cases hc : checkE P n = 0
      · rw [if_pos hc, hc]
        have HC := Lib.hid hc
        have hpe : pubE j n P = (pubT j n P, 0) := by rw [HPE.out, if_pos trivial, if_pos hc]
        have HPT := Lib.hid hpe
        have hok := checkE_ok hc
        have HPR := Lib.hid (fun i (hi : i < n) => okN_at hok.1 i hi)
        have HN := Lib.hid hok.2.1
        clear hc hpe hok HPE
        go_upto_region 7 with ((with_reducible refine store25 (G := packW n P) p3 ?_ ?_ ?_); exact rfl; exact rfl; intro W4 hE4 hs4 hb4; clear hs4)
        have hS4 := H3.out.1.words (G := packW n P) HB.out.2.2.2.1 (by omega) (by have := HB.out.2.2.2.2.2; omega) hE4 hb4
        have H4 : Hid (PbS w W4 tb jb ab j (packW n P) [] ∧ Ext [] w W4) := ⟨hS4, H3.out.2.trans' hE4 (fun i hi => .inr (by simp at hi; have := HB.out.2.2.2.2.2; omega))⟩
        clear hE4 hb4 hS4 p3 p6
        have hputs : ∀ W', Ext [tb] w W' → Puts W' ao n P := fun W' hE => HPN.out.1.ext (hE.mono (fun i hi => .inr (by simp at hi; have := HB.out.2.2.2.2.1; omega)))
        have HPU := Lib.hid hputs
        clear hputs
        by_cases h1 : n = 1
        · have hd : ((n : Int) == 1) = true := by simp; omega
          have HT := Lib.hid (th_apply w W4 tb [] ao n cap P H4.out.1.tbs (fun W' hE _ => HPU.out W' hE) HPR.out (by have := HN.out; simp; omega))
          have hpt : pubT j n P = [] ++ appT n P := by unfold pubT; rw [if_pos h1]; rfl
          have HPP := Lib.hid hpt
          clear h1 hpt
          go_wp2_with fail
          refine HT.out.mono ?_
          rintro e W5 ⟨⟨_, rfl⟩, hT5, hX5⟩
          obtain ⟨v, hv, hO⟩ := hT5.has
          have q7 := cell_of (j := 0) (v := v) hv rfl
          have H5 : Hid (TcOwn W5 w.heap.size v (pubT j n P) ∧ Ext [] w W5) := ⟨by rw [HPP.out]; exact hO, hT5.ex.mono (fun i hi => .inr (by simp at hi; have := HB.out.2.2.2.2.1; omega))⟩
          clear hT5 hX5 hv hO
          go_wp2
          simp only [Exit.jump]
          go_ret2
          rw [HPT.out]
          exact ⟨_, rfl, H5.out.2, H5.out.1⟩
        · have hd : ((n : Int) == 1) = false := by simp; omega
          have hpt : pubT j n P = [] ++ wrT j (packW n P) ++ fstT j (packW n P 0) ++ appT n P ++ fstT j 0 := by unfold pubT; rw [if_neg h1]; rfl
          have HPP := Lib.hid hpt
          have HT := Lib.hid (th_write w W4.drew tb ab [] j (packW n P) (H4.out.1.ext0 (Ext.refl _ _).drew).tbs (H4.out.1.ext0 (Ext.refl _ _).drew).arrAt HB.out.2.2.2.1 (by simp) HJ.out)
          have p6 := cell_of (j := 0) (v := .int .i64 j) H4.out.1.jbx rfl
          clear h1 hpt
          go_wp2
          go_still_tail 2, (by kernel_rfl)
          change wpList _ _ _ _ _ (World.drew _)
          go_wp2_with fail
          refine HT.out.mono ?_
          intro e W5 hp5
          have hS5 := (H4.out.1.ext0 (Ext.refl _ _).drew).step HB.out.2.2.1 HB.out.2.2.2.1 hp5
          obtain ⟨⟨_, rfl⟩, _, _⟩ := hp5
          have H5 := Lib.hid hS5
          have p6' := cell_of (j := 0) (v := .int .i64 j) hS5.jbx rfl
          have p8 := cell_of hS5.arr (arrF_get 24 (packW n P) 0 (by omega))
          clear hS5 p6
          go_wp2_with fail
          refine (th_first w W5 tb _ j (packW n P 0) H5.out.tbs (by unfold wrT; simp [wrS_len]) (by have := HJ.out; omega)).mono ?_
          intro e W6 hp6
          have hS6 := H5.out.step HB.out.2.2.1 HB.out.2.2.2.1 hp6
          obtain ⟨⟨_, rfl⟩, _, _⟩ := hp6
          have H6 := Lib.hid hS6
          clear hS6 p6' p8
          go_wp2_with fail
          refine (th_apply w W6 tb _ ao n cap P H6.out.tbs (fun W' hE _ => HPU.out W' hE) HPR.out (by have := HN.out; unfold wrT fstT; simp [wrS_len]; omega)).mono ?_
          intro e W7 hp7
          have hS7 := H6.out.step HB.out.2.2.1 HB.out.2.2.2.1 hp7
          obtain ⟨⟨_, rfl⟩, _, _⟩ := hp7
          have H7 := Lib.hid hS7
          have p6' := cell_of (j := 0) (v := .int .i64 j) hS7.jbx rfl
          have hal : (appT n P).length ≤ 2000 := by
            have h1 : (storedL (stoT n P)).length ≤ 1024 := upto_len _ _
            have h2 := HN.out
            rw [appT_eq, List.length_append, List.length_append, stoT_len]
            unfold flK
            rw [List.length_map]
            simp
            omega
          have HAL := Lib.hid hal
          clear hS7 hal
          go_wp2_with fail
          refine (th_first w W7 tb _ j 0 H7.out.tbs (by have := HAL.out; unfold wrT fstT; simp [wrS_len]; omega) (by have := HJ.out; omega)).mono ?_
          intro e W8 hp8
          have hS8 := H7.out.step HB.out.2.2.1 HB.out.2.2.2.1 hp8
          obtain ⟨⟨_, rfl⟩, _, _⟩ := hp8
          obtain ⟨v, hv, hO⟩ := hS8.tbs.has
          have q7 := cell_of (j := 0) (v := v) hv rfl
          have H8 : Hid (TcOwn W8 w.heap.size v (pubT j n P) ∧ Ext [] w W8) := ⟨by rw [HPP.out]; exact hO, hS8.tbs.ex.mono (fun i hi => .inr (by simp at hi; have := HB.out.2.2.2.2.1; omega))⟩
          clear hS8 hv hO p6'
          go_wp2
          simp only [Exit.jump]
          go_ret2
          rw [HPT.out]
          exact ⟨_, rfl, H8.out.2, H8.out.1⟩
      · rw [if_neg hc]
        have hpe : pubE j n P = ([], checkE P n) := by rw [HPE.out, if_pos trivial, if_neg hc]
        have HPT := Lib.hid hpe
        have g : (checkE P n != 0) = true := by simpa using hc
        clear hc hpe HPE
        generalize checkE P n = c at *
        go_upto_region 7 with ((with_reducible refine store25 (G := fun _ => 0) p3 ?_ ?_ ?_); exact rfl; exact rfl; intro W4 hE4 hs4 hb4; clear hs4)
        have H4 : Hid (Ext [] w W4) := H3.out.2.trans' hE4 (fun i hi => .inr (by simp at hi; have := HB.out.2.2.2.2.2; omega))
        clear hE4 hb4 p3 p6
        go_wp2
        go_step3
        refine ⟨rfl, ?_⟩
        go_wp2
        rw [Exit.noGoto_ret]
        go_ret2
        rw [HPT.out]
        exact ⟨_, rfl, H4.out, TcOwn.nil _ _⟩
end Go.Proofs.Ytjdojckemphadaa
