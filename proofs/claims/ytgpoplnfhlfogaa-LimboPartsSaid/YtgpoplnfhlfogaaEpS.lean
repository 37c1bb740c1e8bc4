/- Package epoch: Copy, Same; and what a clock that is none answers. -/
import Derived.Test.YtgpoplnfhlfogaaEpR
import Derived.Test.YtgpoplnfhlfogaaEpH
import Derived.RegionTactic
namespace Go.Proofs.Ytgpoplnfhlfogaa
open Go Go.RowKit Go.Shelf
attribute [local go_sem] Oper.semAt_some

theorem then_np' {K0 : Act → World → Prop} {Q : Exit → Act → World → Prop} : ∀ e a w, Exit.then K0 (NoPanic Q) e a w → Exit.then K0 Q e a w := fun e a w h => by
  cases e <;> first | exact h | exact NoPanic.out _ _ _ h
set_option maxRecDepth 100000 in
set_option maxHeartbeats 1000000 in
theorem ep_Copy (c m : Nat) (now : Int) (l : Ents) (w : World) (h : Clk w c m now l) :
    Calls Try.prog 55 #[.pointer (some ⟨c, 0, none⟩)] w fun e w' => ∃ c' m', e = .returned (.pointer (some ⟨c', 0, none⟩)) ∧ Ext [] w w' ∧ Clk w' c' m' now l ∧ w.heap.size ≤ c' ∧ w.heap.size ≤ m' := by
  have HN := Lib.hid (ep_none_no c m w h.c1)
  have HCL : Hid (∀ W, Ext [] w W → Calls Try.prog 95 #[.map (some m)] W fun e w' => ∃ nb, e = .returned (.map (some nb)) ∧ Ext [] w w' ∧ w.heap.size ≤ nb ∧ IMap w' nb l) := by
    intro W hE
    refine (ep_clone m l W (h.2.ext hE (by simp))).mono ?_
    rintro e w' ⟨rfl, hE2, _, hI⟩
    exact ⟨_, rfl, hE.trans hE2, hE.size, hI⟩
  have k1 := h.c0
  have k2 := h.c1
  clear h
  go_enter Try.func55, Try.ntmps55
  go_wp2_with fail
  refine HN.out.mono ?_
  rintro e w' ⟨rfl, rfl⟩
  go_wp2
  go_region_with (go_at_call 95; refine (HCL.out _ ?_).mono ?_; exact Ext.drew (Ext.refl _ _); rintro e w5 ⟨nb, rfl, hE5, hnb, hL5⟩; have q1 := hE5.cell k1 (by simp); have q2 := hE5.cell k2 (by simp); have HE5 := Lib.hid (And.intro hE5 hL5); clear hE5 hL5)
  all_goals go_wp2
  all_goals
    go_ret
    exact ⟨_, nb, rfl, HE5.out.1.alloc _, ⟨World.alloc_heap_new _ _, HE5.out.2.alloc _⟩, HE5.out.1.size, hnb⟩

/-- does an entry lie in the other map? -/
def eqAt (l2 : Ents) (p : Int × Value) : Bool := match p.2, look l2 p.1 with | .int _ a, some (.int _ b) => a == b | _, _ => false
def sameE (l1 l2 : Ents) : Bool := decide (l1.length = l2.length) && l1.all (eqAt l2)
theorem filter_len {p q : Nat → Bool} (h : ∀ i, i < 8 → p i = true → q i = true) (hl : ((List.range 8).filter p).length = ((List.range 8).filter q).length) : ∀ i, i < 8 → q i = true → p i = true := by
  have he : (List.range 8).filter p = ((List.range 8).filter q).filter p := by
    rw [List.filter_filter]
    refine List.filter_congr (fun i hi => ?_)
    cases hp : p i with
    | false => simp
    | true => rw [h i (List.mem_range.1 hi) hp]; rfl
  have hs : ((List.range 8).filter p).Sublist ((List.range 8).filter q) := by rw [he]; exact List.filter_sublist
  have := hs.eq_of_length hl
  intro i hi hq
  have hm : i ∈ (List.range 8).filter q := List.mem_filter.2 ⟨List.mem_range.2 hi, hq⟩
  rw [← this] at hm
  exact (List.mem_filter.1 hm).2
theorem len_ref {now : Int} {l : Ents} (h : COk now l) : l.length = ((List.range 8).filter fun i => decide (0 < pinN l i)).length := by
  rw [← sortK_len, sortK_ref h]
  unfold refP
  rw [List.length_map]
theorem sameE_iff {n1 n2 : Int} {l1 l2 : Ents} (h1 : COk n1 l1) (h2 : COk n2 l2) : sameE l1 l2 = true ↔ ∀ i, i < 8 → pinN l1 i = pinN l2 i := by
  unfold sameE
  rw [Bool.and_eq_true, decide_eq_true_eq, List.all_eq_true]
  constructor
  · rintro ⟨hl, ha⟩
    have hsome : ∀ i, i < 8 → 0 < pinN l1 i → pinN l2 i = pinN l1 i := by
      intro i hi hp
      rcases h1.lkN i with ⟨_, e⟩ | ⟨_, e, _, _⟩
      · omega
      · have hq := ha _ (look_some_mem _ _ _ e)
        unfold eqAt at hq
        dsimp only at hq
        rcases h2.lkN i with ⟨e2, _⟩ | ⟨_, e2, _, _⟩
        · rw [e2] at hq; cases hq
        · rw [e2] at hq
          simp at hq
          omega
    have hback := filter_len (p := fun i => decide (0 < pinN l1 i)) (q := fun i => decide (0 < pinN l2 i)) (fun i hi hp => by
      have hp' : 0 < pinN l1 i := by simpa using hp
      have := hsome i hi hp'
      simp
      omega) (by rw [← len_ref h1, ← len_ref h2]; exact hl)
    intro i hi
    have p1 := h1.pos i
    have p2 := h2.pos i
    by_cases hp : 0 < pinN l1 i
    · rw [hsome i hi hp]
    · have : ¬ 0 < pinN l2 i := fun hq => by
        have := hback i hi (by simpa using hq)
        simp at this
        omega
      omega
  · intro he
    have hlk := look_eq_of h1 h2 he
    refine ⟨?_, fun p hp => ?_⟩
    · rw [len_ref h1, len_ref h2]
      congr 1
      refine List.filter_congr (fun i hi => ?_)
      rw [he i (List.mem_range.1 hi)]
    · obtain ⟨a, ha, _, _⟩ := h1.val p hp
      have := look_of_mem _ _ _ h1.nd (show (p.1, p.2) ∈ l1 from hp)
      unfold eqAt
      rw [← hlk, this, ha]
      simp

set_option maxRecDepth 100000 in
set_option maxHeartbeats 2000000 in
theorem ep_Equal (b1 b2 : Nat) (l1 l2 : Ents) (w : World) (h1 : IMap w b1 l1) (h2 : IMap w b2 l2) (hv1 : ∀ p ∈ l1, ∃ n, p.2 = .int .i64 n) (hv2 : ∀ p ∈ l2, ∃ n, p.2 = .int .i64 n) :
    Calls Try.prog 93 #[.map (some b1), .map (some b2)] w fun e w' => e = .returned (.bool (sameE l1 l2)) ∧ Ext [] w w' := by
  have q1 := fun ty => run_lenMap (P := Try.prog) 42 3 3 ty Try.underlying42 h1
  have q2 := fun ty => run_lenMap (P := Try.prog) 42 3 3 ty Try.underlying42 h2
  obtain ⟨W1, hrg, hir, hE1, hs1⟩ := run_rangeMap' (P := Try.prog) 42 3 3 Try.underlying42 h1
  have H := Lib.hid (And.intro h1 (And.intro h2 (And.intro hv1 (And.intro hv2 (And.intro hir (And.intro hE1 hs1))))))
  clear h1 h2 hv1 hv2 hir hE1 hs1
  by_cases hlen : l1.length = l2.length
  · have hne : ((l1.length : Int) != (l2.length : Int)) = false := by simp; omega
    go_enter Try.func93, Try.ntmps93
    go_wp2
    clear q1 q2 hne
    go_loopg [] l1.length (fun k wr => ∃ left, IRange wr w.heap.size b1 left ∧ left.length = k ∧ (∀ p ∈ l1, p ∈ left ∨ eqAt l2 p = true) ∧ (∀ p ∈ left, p ∈ l1) ∧ Ext [] w wr)
    case atStart => exact ⟨l1, H.out.2.2.2.2.1, rfl, fun p hp => .inl hp, fun p hp => hp, H.out.2.2.2.2.2.1⟩
    case round =>
      obtain ⟨left, hir, hk, hdone, hsub, hE⟩ := hrel
      have HD := Lib.hid (And.intro hdone (And.intro hsub hE))
      have hb2 : b2 < w.heap.size := H.out.2.1.lt
      clear hdone hsub
      rcases next_any (P := Try.prog) hir with ⟨hnil, hn⟩ | ⟨j, v, left', W2, hn, hen, hperm, hir2, hE2, _, hs2⟩
      · have HT : Hid (sameE l1 l2 = true) := by
          unfold Hid sameE
          rw [Bool.and_eq_true, decide_eq_true_eq, List.all_eq_true]
          refine ⟨hlen, fun p hp => ?_⟩
          rcases HD.out.1 p hp with h' | h'
          · rw [hnil] at h'; cases h'
          · exact h'
        have HE := Lib.hid hE
        clear hnil hir hE hk hlen
        go_wp2
        go_ret
        exact ⟨by rw [HT.out]; rfl, HE.out⟩
      · have hjl : (j, v) ∈ l1 := HD.out.2.1 _ (hperm.mem_iff.2 (List.mem_cons_self ..))
        obtain ⟨n, hvn⟩ := H.out.2.2.1 _ hjl
        simp only at hvn
        subst hvn
        have hE3 : Ext [] w W2 := hE.trans' hE2 (fun k hk => .inr (by simp at hk; omega))
        have h2W := H.out.2.1.ext hE3 (by simp)
        have hlk := run_look_ok (P := Try.prog) 42 3 3 (.int .i64 0) Try.underlying42 Try.underlying3 (zeroI W2) h2W j
        have HP := Lib.hid (And.intro hperm (And.intro hir2 (And.intro hE3 (And.intro hjl (And.intro hk hlen)))))
        clear hperm hir hir2 hE2 hE3 hjl hk hs2 h2W hlen hE hb2
        have hbad : eqAt l2 (j, .int .i64 n) = false → sameE l1 l2 = false := fun hb => by
          unfold sameE
          have : l1.all (eqAt l2) = false := by
            rw [List.all_eq_false]
            exact ⟨_, HP.out.2.2.2.1, by rw [hb]; simp⟩
          rw [this, Bool.and_false]
        cases hl : look l2 j with
        | none =>
          rw [hl] at hlk
          simp only [Option.getD_none, Option.isSome_none] at hlk
          have HB := Lib.hid (hbad (by unfold eqAt; rw [hl]))
          clear hbad hl
          go_wp2
          go_ret
          exact ⟨by rw [HB.out]; rfl, HP.out.2.2.1⟩
        | some u =>
          obtain ⟨n2, hu⟩ := H.out.2.2.2.1 _ (look_some_mem _ _ _ hl)
          simp only at hu
          subst hu
          rw [hl] at hlk
          simp only [Option.getD_some, Option.isSome_some] at hlk
          by_cases he : n = n2
          · subst he
            have hne : (n != n) = false := bne_self_eq_false _
            have HG : Hid (eqAt l2 (j, .int .i64 n) = true) := by unfold Hid eqAt; rw [hl]; exact beq_self_eq_true n
            clear hbad hl
            go_wp2
            go_roundg left'.length
            case measure => have e1 := HP.out.1.length_eq; have := HP.out.2.2.2.2.1; simp at e1; omega
            case rel =>
              refine ⟨left', HP.out.2.1, rfl, fun p hp => ?_, fun p hp => HD.out.2.1 p (HP.out.1.mem_iff.2 (List.mem_cons_of_mem _ hp)), HP.out.2.2.1⟩
              rcases HD.out.1 p hp with h' | h'
              · rcases List.mem_cons.1 (HP.out.1.mem_iff.1 h') with h'' | h''
                · exact .inr (by rw [h'']; exact HG.out)
                · exact .inl h''
              · exact .inr h'
          · have hne : (n != n2) = true := by simpa using he
            have HB := Lib.hid (hbad (by unfold eqAt; rw [hl]; simpa using he))
            clear hbad hl he
            go_wp2
            go_ret
            exact ⟨by rw [HB.out]; rfl, HP.out.2.2.1⟩
  · have hne : ((l1.length : Int) != (l2.length : Int)) = true := by simp; omega
    have HB : Hid (sameE l1 l2 = false) := by unfold Hid sameE; rw [decide_eq_false hlen]; rfl
    clear hlen
    go_enter Try.func93, Try.ntmps93
    go_wp2
    go_ret
    exact ⟨by rw [HB.out]; rfl, Ext.refl _ _⟩

def sameC (n1 n2 : Int) (l1 l2 : Ents) : Bool := n1 == n2 && sameE l1 l2
set_option maxRecDepth 100000 in
set_option maxHeartbeats 2000000 in
theorem ep_Same (c1 m1 c2 m2 : Nat) (n1 n2 : Int) (l1 l2 : Ents) (w : World) (h1 : Clk w c1 m1 n1 l1) (h2 : Clk w c2 m2 n2 l2) (hv1 : ∀ p ∈ l1, ∃ n, p.2 = .int .i64 n) (hv2 : ∀ p ∈ l2, ∃ n, p.2 = .int .i64 n) :
    Calls Try.prog 56 #[.pointer (some ⟨c1, 0, none⟩), .pointer (some ⟨c2, 0, none⟩)] w fun e w' => e = .returned (.bool (sameC n1 n2 l1 l2)) ∧ Ext [] w w' := by
  have HN1 := Lib.hid (ep_none_no c1 m1 w h1.c1)
  have HN2 := Lib.hid (ep_none_no c2 m2 w h2.c1)
  have HQ : Hid (∀ W, Ext [] w W → Calls Try.prog 93 #[.map (some m1), .map (some m2)] W fun e w' => e = .returned (.bool (sameE l1 l2)) ∧ Ext [] w w') := by
    intro W hE
    refine (ep_Equal m1 m2 l1 l2 W (h1.2.ext hE (by simp)) (h2.2.ext hE (by simp)) hv1 hv2).mono ?_
    rintro e w' ⟨rfl, hE2⟩
    exact ⟨rfl, hE.trans hE2⟩
  have HR : Hid (∀ W, Ext [] w W → W.cell? ⟨c1, 0, none⟩ = some (.int .i64 n1) ∧ W.cell? ⟨c1, 1, none⟩ = some (.map (some m1)) ∧ W.cell? ⟨c2, 0, none⟩ = some (.int .i64 n2) ∧ W.cell? ⟨c2, 1, none⟩ = some (.map (some m2))) := fun W hE =>
    ⟨hE.cell h1.c0 (by simp), hE.cell h1.c1 (by simp), hE.cell h2.c0 (by simp), hE.cell h2.c1 (by simp)⟩
  clear h1 h2 hv1 hv2
  obtain ⟨r, hr⟩ : ∃ r, sameE l1 l2 = r := ⟨_, rfl⟩
  unfold sameC
  rw [hr] at HQ ⊢
  clear hr
  cases hq : (n1 == n2) with
  | true =>
    go_enter Try.func56, Try.ntmps56
    go_wp2_with fail
    refine HN1.out.mono ?_
    rintro e w' ⟨rfl, rfl⟩
    go_wp2_with fail
    refine HN2.out.mono ?_
    rintro e w' ⟨rfl, rfl⟩
    go_upto_region 3 with fail
    refine wp_mono (Q := Exit.then _ (NoPanic _)) ?_ then_np'
    refine wp_region_p4 [] (hds4 [0, 1, 2, 3, 4, 5, 6, 7, 8, 9, 10, 11, 12, 13, 14, 15, 16, 17] (.tl 18 (.tl 19 (.tl 20 .done)))) (Ext [] w) (by kernel_rfl) (by kernel_rfl) (fun _ d _ _ _ h => by cases d <;> exact h) (Ext.refl _ _).drew ?_
    repeat (first
      | (refine wpPl_no4 rfl (by rfl) ?_; simp only [Act.put, List.setIfInBounds_toArray, List.set_cons_zero, List.set_cons_succ])
      | (refine wpPl_hd4 ?_ rfl (by rfl) (fun w hSw => ?_) ?_
         rotate_left
         · (obtain ⟨r0, r1, r2, r3⟩ := HR.out _ hSw; clear hSw; go_simp; first | exact ⟨rfl, rfl⟩ | exact rfl)
         simp only [Act.put, List.setIfInBounds_toArray, List.set_cons_zero, List.set_cons_succ]))
    refine wpPl_tl4 rfl (by rfl) (fun K hK => ?_)
    go_simp
    go_at_call 93
    refine (HQ.out _ (Ext.refl _ _).drew).mono ?_
    rintro e w5 ⟨rfl, hE5⟩
    have HE5 := Lib.hid hE5
    refine hK _ _ (fun _ => HE5.out) ?_
    clear hK K hE5
    try simp only [Act.put, List.setIfInBounds_toArray, List.set_cons_zero, List.set_cons_succ]
    iterate 2 (
      refine wpPl_tl4 rfl (by rfl) (fun K hK => ?_)
      go_simp
      refine hK _ _ (fun _ => HE5.out) ?_
      clear hK K
      try simp only [Act.put, List.setIfInBounds_toArray, List.set_cons_zero, List.set_cons_succ])
    refine wpPl_done4 ?_
    go_wp2
    go_ret
    exact ⟨ret_bool (by simp), HE5.out⟩
  | false =>
    have k1 := (HR.out w (Ext.refl _ _)).1
    have k3 := (HR.out w (Ext.refl _ _)).2.2.1
    go_enter Try.func56, Try.ntmps56
    go_wp2_with fail
    refine HN1.out.mono ?_
    rintro e w' ⟨rfl, rfl⟩
    go_wp2_with fail
    refine HN2.out.mono ?_
    rintro e w' ⟨rfl, rfl⟩
    go_wp2
    go_quiet (fail)
    go_wp2
    go_ret
    exact ⟨ret_bool (by simp), Ext.drewN (Ext.refl _ _) _⟩
end Go.Proofs.Ytgpoplnfhlfogaa
