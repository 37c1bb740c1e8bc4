/- Clock.Now, At, New, Advance. -/
import Derived.Test.YtgpoplnfhlfogaaEpC
import Derived.Deep.LoopGhost
namespace Go.Proofs.Ytgpoplnfhlfogaa
open Go Go.RowKit

set_option maxHeartbeats 400000 in
theorem ep_at (a b : Int) (w : World) :
    Calls Try.prog 67 #[.int .i64 a, .int .i64 b] w fun e w' => e = .returned (.bool (a == b)) ∧ w = w' := by
  go_enter Try.func67, Try.ntmps67
  go_wp2
  go_ret
  exact ⟨rfl, rfl⟩

set_option maxHeartbeats 400000 in
theorem ep_now (c m : Nat) (now : Int) (l : Ents) (w : World) (h : Clk w c m now l) :
    Calls Try.prog 18 #[.pointer (some ⟨c, 0, none⟩)] w fun e w' => e = .returned (.int .i64 now) ∧ w = w' := by
  have h0 := h.c0
  have H := Lib.hid (ep_none_no c m w h.c1)
  go_enter Try.func18, Try.ntmps18
  go_wp2_with (go_at_call 66; refine H.out.mono ?_; rintro e w' ⟨rfl, rfl⟩)
  go_ret
  exact ⟨rfl, rfl⟩

set_option maxHeartbeats 400000 in
theorem ep_At (c m : Nat) (now : Int) (l : Ents) (t : Int) (w : World) (h : Clk w c m now l) :
    Calls Try.prog 54 #[.pointer (some ⟨c, 0, none⟩), .int .i64 t] w fun e w' => e = .returned (.tuple #[(look l t).getD (.int .i64 0), .bool (look l t).isSome]) ∧ w = w' := by
  have h0 := h.c1
  have hl := run_look_ok (P := Try.prog) 42 3 3 (.int .i64 0) Try.underlying42 Try.underlying3 (zeroI w) h.2 t
  have H := Lib.hid (ep_none_no c m w h.c1)
  go_enter Try.func54, Try.ntmps54
  go_wp2_with (go_at_call 66; refine H.out.mono ?_; rintro e w' ⟨rfl, rfl⟩)
  go_ret2
  exact ⟨rfl, rfl⟩

set_option maxHeartbeats 400000 in
theorem ep_new (w : World) :
    Calls Try.prog 14 #[] w fun e w' => e = .returned (.pointer (some ⟨w.heap.size + 1, 0, none⟩)) ∧ Ext [] w w' ∧ Clk w' (w.heap.size + 1) w.heap.size 0 [] := by
  have hmm := @run_makeMap Try.prog
  go_enter Try.func14, Try.ntmps14
  go_wp2
  go_ret
  have hn := World.alloc_heap_new (w.alloc (.map #[] 0)) (.cells #[.int .i64 0, .map (some w.heap.size)] 98)
  rw [World.size_alloc] at hn
  exact ⟨rfl, ((Ext.refl [] w).alloc _).alloc _, hn, (IMap.made w).alloc _⟩

def atNow (now : Int) (l : Ents) : Bool := l.all fun p => match p.2 with | .int _ n => n == now | _ => false
def advOk (now : Int) (l : Ents) : Bool := atNow now l && !(now == 1073741824)

theorem one_set {w : World} {b : Nat} {x v u : Value} {t : TypeId} (h : w.heap[b]? = some (.cells #[x, v] t (0, 0))) : (w.setCell ⟨b, 0, none⟩ u).heap[b]? = some (.cells #[u, v] t (0, 0)) := by
  simp only [World.setCell, Array.getElem?_modify, if_true, h]; rfl
def AdvPost (w : World) (c m : Nat) (now : Int) (l : Ents) (e : Ending) (w' : World) : Prop :=
  e = .returned (.tuple #[.bool (advOk now l), .int .i64 0]) ∧ Ext [c] w w' ∧ Clk w' c m (if advOk now l then now + 1 else now) l

set_option maxRecDepth 100000 in
set_option maxHeartbeats 2000000 in
theorem ep_advance (c m : Nat) (now : Int) (l : Ents) (w : World) (h : Clk w c m now l) (hv : ∀ p ∈ l, ∃ n, p.2 = .int .i64 n) (h0 : 0 ≤ now) (h1 : now ≤ 1073741824) :
    Calls Try.prog 17 #[.pointer (some ⟨c, 0, none⟩)] w (AdvPost w c m now l) := by
  have p1 := h.c1
  have HN := Lib.hid (ep_none_no c m w h.c1)
  obtain ⟨W1, hrg, hir, hE1, hs1⟩ := run_rangeMap' (P := Try.prog) 42 3 3 Try.underlying42 h.2
  have H := Lib.hid (And.intro h (And.intro hv (And.intro hir (And.intro hE1 hs1))))
  clear h hv hir hE1 hs1
  go_enter Try.func17, Try.ntmps17
  go_wp2_with (go_at_call 66; refine HN.out.mono ?_; rintro e w' ⟨rfl, rfl⟩)
  go_loopg [] l.length (fun k wr => ∃ left, IRange wr w.heap.size m left ∧ left.length = k ∧ (∀ p ∈ l, p ∈ left ∨ p.2 = .int .i64 now) ∧ (∀ p ∈ left, p ∈ l) ∧ Ext [] w wr)
  case atStart => exact ⟨l, H.out.2.2.1, rfl, fun p hp => .inl hp, fun p hp => hp, H.out.2.2.2.1⟩
  case round =>
    obtain ⟨left, hir, hk, hdone, hsub, hE⟩ := hrel
    have hc := H.out.1.ext hE (by simp) (by simp)
    have p0 := hc.c0
    have p1 := hc.c1
    have hfz := hc.fz 0
    have HD := Lib.hid (And.intro hc (And.intro hdone (And.intro hsub hE)))
    have hcr : c ≠ w.heap.size := by have := lt_of_block H.out.1.1; omega
    clear hc hdone hsub hE
    rcases next_any (P := Try.prog) hir with ⟨hnil, hn⟩ | ⟨j, v, left', W2, hn, hen, hperm, hir2, hE2, _, hs2⟩
    · have hall : atNow now l = true := by
        refine List.all_eq_true.2 (fun p hp => ?_)
        rcases HD.out.2.1 p hp with h' | h'
        · rw [hnil] at h'; cases h'
        · rw [h']; simp
      have HA := Lib.hid hall
      clear hall hnil hir hcr
      have HT := Lib.hid (fun W => ep_at now 1073741824 W)
      by_cases hl : now = 1073741824
      · have hb : (now == 1073741824) = true := by simpa using hl
        have HP : Hid (advOk now l = false) := by unfold Hid advOk; rw [hb]; simp
        rw [hb] at HT
        clear hb hl
        go_wp2_with (go_at_call 67; refine (HT.out _).mono ?_; rintro e w' ⟨rfl, rfl⟩)
        go_ret2
        show _ ∧ _ ∧ _
        rw [HP.out]
        exact ⟨rfl, HD.out.2.2.2.wide, HD.out.1⟩
      · have hb : (now == 1073741824) = false := by simpa using hl
        have HP : Hid (advOk now l = true) := by unfold Hid advOk; rw [hb, HA.out]; rfl
        have hw : now + 1 ≤ 1073741824 := by omega
        rw [hb] at HT
        clear hb hl
        go_wp2_with (go_at_call 67; refine (HT.out _).mono ?_; rintro e w' ⟨rfl, rfl⟩)
        go_ret2
        show _ ∧ _ ∧ _
        rw [HP.out]
        have hne : m ≠ c := HD.out.1.ne
        exact ⟨rfl, HD.out.2.2.2.wide.setCell (.inl (by simp)) _, one_set HD.out.1.1, HD.out.1.2.setCell hne _⟩
    · have hjl : (j, v) ∈ l := HD.out.2.2.1 _ (hperm.mem_iff.2 (List.mem_cons_self ..))
      obtain ⟨n, hvn⟩ := H.out.2.1 _ hjl
      simp only at hvn
      subst hvn
      have hE3 : Ext [] w W2 := HD.out.2.2.2.trans' hE2 (fun k hk => .inr (by simp at hk; omega))
      have p0' : W2.cell? ⟨c, 0, none⟩ = some (.int .i64 now) := hE2.cell p0 (by simpa using hcr)
      have HT := Lib.hid (fun W => ep_at now n W)
      by_cases hl : now = n
      · subst hl
        have hb : (now == now) = true := by simp
        rw [hb] at HT
        have HF : Hid (left'.length < gk ∧ (∀ p ∈ l, p ∈ left' ∨ p.2 = .int .i64 now) ∧ (∀ p ∈ left', p ∈ l) ∧ IRange W2 w.heap.size m left' ∧ Ext [] w W2) := by
          refine ⟨by have := hperm.length_eq; simp at this; omega, fun p hp => ?_, fun p hp => HD.out.2.2.1 p (hperm.mem_iff.2 (List.mem_cons_of_mem _ hp)), hir2, hE3⟩
          rcases HD.out.2.1 p hp with h' | h'
          · rcases List.mem_cons.1 (hperm.mem_iff.1 h') with h'' | h''
            · exact .inr (by rw [h''])
            · exact .inl h''
          · exact .inr h'
        clear hb hperm hir hir2 hE2 hE3 hjl hcr hk p0 hs2
        go_wp2_with (go_at_call 67; refine (HT.out _).mono ?_; rintro e w' ⟨rfl, rfl⟩)
        go_roundg left'.length
        case measure => exact HF.out.1
        case rel => exact ⟨left', HF.out.2.2.2.1, rfl, HF.out.2.1, HF.out.2.2.1, HF.out.2.2.2.2⟩
      · have hb : (now == n) = false := by simpa using hl
        rw [hb] at HT
        have HP : Hid (advOk now l = false) := by
          unfold Hid advOk
          have : atNow now l = false := by
            rw [atNow, List.all_eq_false]
            exact ⟨_, hjl, by simpa using fun e => hl e.symm⟩
          rw [this]; rfl
        have HF := Lib.hid (And.intro hE3 (HD.out.1.ext hE2 (by simpa using hcr) (by have := H.out.1.2.lt; simp; omega)))
        clear hb hperm hir hir2 hE2 hE3 hjl hcr hk p0 hs2 hl
        go_wp2_with (go_at_call 67; refine (HT.out _).mono ?_; rintro e w' ⟨rfl, rfl⟩)
        go_ret2
        show _ ∧ _ ∧ _
        rw [HP.out]
        exact ⟨rfl, HF.out.1.wide, HF.out.2⟩
end Go.Proofs.Ytgpoplnfhlfogaa
