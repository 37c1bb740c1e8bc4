/- The document's Pack of records: what it answers. -/
import Derived.Test.YtjdojckemphadaaRcp
namespace Go.Proofs.Ytjdojckemphadaa
open Go Go.RowKit

theorem results_cell1 {P : Program} {fn : Func} {p : Tmp} {ty : TypeId} (h : fn.results = #[.cell p ty]) (tmps : Array Value) (w : World) (g : Nat) (t : TypeId) (cs : Array Value) (fr : Nat × Nat) (d : TypeDesc)
    (hp : tmps.getD p undef = .pointer (some ⟨g, 0, none⟩)) (hg : w.heap[g]? = some (.cells cs t fr))
    (hu : P.underlying ty = some d) (hd : (match d with | .struct _ | .array _ _ => true | _ => false) = true) (hi : (P.info? ty).map (·.size) = some cs.size) :
    (results fn tmps).run P w = .ok (.agg cs) w := by
  have hp' : tmps[p]?.getD undef = .pointer (some ⟨g, 0, none⟩) := by simpa using hp
  simp [results, h, hp', asAddr, run_loadVar_row w g t ty cs fr d hg hu hd hi]

theorem set2 {w : World} {g i j : Nat} {p q : Int} {F : Nat → Int} {e : TypeId} (h : w.heap[g]? = some (.cells (arrF 24 F) e (0, 0))) :
    ((w.setCell ⟨g, i, none⟩ (.int .u64 p)).setCell ⟨g, j, none⟩ (.int .u64 q)).heap[g]? = some (.cells (arrF 24 fun x => if x = j then q else if x = i then p else F x) e (0, 0)) := by
  simp only [World.setCell, Array.getElem?_modify, if_true, h]
  simp only [Option.map_some, Option.isSome_none, Bool.false_eq_true, if_false, arrF_set]
theorem set1 {w : World} {g i : Nat} {p : Int} {F : Nat → Int} {e : TypeId} (h : w.heap[g]? = some (.cells (arrF 24 F) e (0, 0))) :
    (w.setCell ⟨g, i, none⟩ (.int .u64 p)).heap[g]? = some (.cells (arrF 24 fun x => if x = i then p else F x) e (0, 0)) := by
  simp only [World.setCell, Array.getElem?_modify, if_true, h]
  simp only [Option.map_some, Option.isSome_none, Bool.false_eq_true, if_false, arrF_set]

set_option maxRecDepth 100000 in
set_option maxHeartbeats 4000000 in
theorem ref_pack (ao : Option Addr) (n cap : Nat) (L : Nat → Int × Int) (w : World) (hp : Puts w ao n L) (hc : checkE L n = 0) :
    Calls Try.prog 24 #[.slice ao n cap] w fun e w' => e = .returned (.agg (arrF 24 (packW n L))) ∧ Ext [] w w' := by
  have HP := Lib.hid hp
  have HZ := Lib.hid hc
  obtain ⟨_, hn11, _⟩ := checkE_ok hc
  clear hp hc
  have hs1 : (w.alloc (.cells (arrF 24 fun _ => 0) 49)).heap.size = w.heap.size + 1 := World.size_alloc _ _
  have hb0 : ((w.alloc (.cells (arrF 24 fun _ => 0) 49)).alloc (.cells (arrF 24 fun _ => 0) 49)).heap[w.heap.size]? = some (.cells (arrF 24 fun _ => 0) 49 (0, 0)) := block_al (World.alloc_heap_new _ _)
  have hb1 : ((w.alloc (.cells (arrF 24 fun _ => 0) 49)).alloc (.cells (arrF 24 fun _ => 0) 49)).heap[w.heap.size + 1]? = some (.cells (arrF 24 fun _ => 0) 49 (0, 0)) := by rw [← hs1]; exact World.alloc_heap_new _ _
  have hE0 := ((Ext.refl [] w).alloc (.cells (arrF 24 fun _ => 0) 49)).alloc (.cells (arrF 24 fun _ => 0) 49)
  generalize hW1 : (w.alloc (.cells (arrF 24 fun _ => 0) 49)).alloc (.cells (arrF 24 fun _ => 0) 49) = W1 at *
  rw [arr0] at hW1
  have HE := Lib.hid (And.intro hE0 (And.intro hb0 hb1))
  have k1 := cell_of hb1 (arrF_get 24 _ 1 (by omega))
  have f1 := free_of hb1 1
  have hw1 : IntKind.u64.wrap (n : Int) = n := IntWalk.u64_in _ (by omega)
  clear hb0 hb1 hE0 hs1
  go_enter Try.func24, Try.ntmps24
  go_wp2_with fail
  have hst : (W1.setCell ⟨w.heap.size + 1, 1, none⟩ (.int .u64 n)).heap[w.heap.size + 1]? = some (.cells (arrF 24 (recF n L 0)) 49 (0, 0)) := by
    rw [set1 HE.out.2.2, arrF_congr 24 _ (recF n L 0)]
    intro i _
    unfold recF
    by_cases hi : i = 1
    · rw [if_pos hi, if_pos hi]
    · rw [if_neg hi, if_neg hi, if_neg (by omega)]
  have HST := Lib.hid (And.intro hst (And.intro (block_sc (a := ⟨w.heap.size + 1, 1, none⟩) (v := .int .u64 n) (by show w.heap.size ≠ w.heap.size + 1; omega) HE.out.2.1) (HE.out.1.setCell (p := ⟨w.heap.size + 1, 1, none⟩) (.inr (by show w.heap.size ≤ w.heap.size + 1; omega)) (.int .u64 n))))
  clear hst k1 f1 hW1
  go_loopg [4] n (fun k i wr => ∃ (j : Nat), i = .int .i64 j ∧ j + k = n ∧ wr.heap[w.heap.size + 1]? = some (.cells (arrF 24 (recF n L j)) 49 (0, 0)) ∧ wr.heap[w.heap.size]? = some (.cells (arrF 24 fun _ => 0) 49 (0, 0)) ∧ Ext [] w wr)
  case atStart => exact ⟨0, rfl, by omega, HST.out⟩
  case round =>
    obtain ⟨j, rfl, hjk, hr1, hr0, hE⟩ := hrel
    have HR := Lib.hid (And.intro hr1 (And.intro hr0 hE))
    clear hr1 hr0 hE
    by_cases hlt : j < n
    · obtain ⟨b, off, rfl, hcell⟩ : ∃ b off, ao = some ⟨b, off, none⟩ ∧ wr.cell? ⟨b, off + j * 2, none⟩ = some (.int .i64 (L j).1) ∧ wr.cell? ⟨b, off + j * 2 + 1, none⟩ = some (.int .u64 (L j).2) := by
        rcases HP.out.ext HR.out.2.2 with h | ⟨b, off, h1, h2⟩
        · omega
        · exact ⟨b, off, h1, h2 j hlt⟩
      obtain ⟨k1, k2⟩ := hcell
      obtain ⟨x, hx⟩ : ∃ x, x = (L j).1 := ⟨_, rfl⟩
      obtain ⟨y, hy⟩ : ∃ y, y = (L j).2 := ⟨_, rfl⟩
      have hxr : 0 ≤ x ∧ x < 8192 := by rw [hx]; exact okN_at (checkE_ok HZ.out).1 j hlt
      obtain ⟨hx0, hx1⟩ := hxr
      rw [← hx] at k1
      rw [← hy] at k2
      have HX := Lib.hid (And.intro hx hy)
      clear hx hy
      have hwx : IntKind.u64.wrap x = x := IntWalk.u64_in _ (by omega)
      have q1 := cell_of HR.out.1 (arrF_get 24 _ (2 + 2 * j) (by omega))
      have q2 := cell_of HR.out.1 (arrF_get 24 _ (3 + 2 * j) (by omega))
      have g1 := free_of HR.out.1 (2 + 2 * j)
      have g2 := free_of HR.out.1 (3 + 2 * j)
      have hrec : (fun i => if i = 3 + 2 * j then y else if i = 2 + 2 * j then x else recF n L j i) = recF n L (j + 1) := by
        funext i
        rw [recF_succ, ← HX.out.1, ← HX.out.2]
        by_cases h1 : i = 3 + 2 * j
        · rw [if_pos h1, if_neg (by omega), if_pos (by omega)]
        · rw [if_neg h1]
          by_cases h2 : i = 2 + 2 * j
          · rw [if_pos h2, if_pos (by omega)]
          · rw [if_neg h2, if_neg (by omega), if_neg (by omega)]
      have hrec' : (fun i => if i = 2 + 2 * j then x else if i = 3 + 2 * j then y else recF n L j i) = recF n L (j + 1) := by
        rw [← hrec]
        funext i
        by_cases h1 : i = 3 + 2 * j
        · rw [if_pos h1, if_neg (show ¬ i = 2 + 2 * j by omega), if_pos h1]
        · rw [if_neg h1, if_neg h1]
      have HF := Lib.hid (And.intro hrec hrec')
      clear hrec hrec'
      go_wp2
      go_region
      all_goals
        go_wp2
        go_roundg (n - (j + 1))
        case measure => omega
        case rel =>
          refine ⟨j + 1, by go_num, by omega, ?_, ?_, ?_⟩
          · first
            | (rw [← HF.out.1]; exact set2 HR.out.1)
            | (rw [← HF.out.2]; exact set2 HR.out.1)
          · exact block_sc (by show w.heap.size ≠ w.heap.size + 1; omega) (block_sc (by show w.heap.size ≠ w.heap.size + 1; omega) HR.out.2.1)
          · exact ((HR.out.2.2.setCell (.inr (by show w.heap.size ≤ w.heap.size + 1; omega)) _).setCell (.inr (by show w.heap.size ≤ w.heap.size + 1; omega)) _).drew
    · have hge : n ≤ j := by omega
      have hr1 : wr.heap[w.heap.size + 1]? = some (.cells (arrF 24 (recF n L n)) 49 (0, 0)) := by have := HR.out.1; rwa [show j = n from by omega] at this
      have HO := Lib.hid (ref_own (w.heap.size + 1) (recF n L n) _ _ wr hr1)
      have k1 := cell_of hr1 (arrF_get 24 _ 1 (by omega))
      have f1 := free_of hr1 1
      rw [show recF n L n 1 = n from rfl] at k1
      have H1 := Lib.hid hr1
      clear hr1
      by_cases hz0 : own0 (recF n L n) = 0
      · have HZ0 := Lib.hid hz0
        rw [hz0] at HO
        clear hz0
        have hw16 : IntKind.u64.wrap ((n : Int) + 16) = (n : Int) + 16 := IntWalk.u64_in _ (by omega)
        have hg := set1 (i := 1) (p := (n : Int) + 16) H1.out
        rw [show (fun i => if i = 1 then (n : Int) + 16 else recF n L n i) = recG n L from by funext i; unfold recG; rw [if_pos HZ0.out]] at hg
        have HG := Lib.hid (And.intro hg (And.intro (block_sc (a := ⟨w.heap.size + 1, 1, none⟩) (v := .int .u64 ((n : Int) + 16)) (by show w.heap.size ≠ w.heap.size + 1; omega) HR.out.2.1) (HR.out.2.2.setCell (p := ⟨w.heap.size + 1, 1, none⟩) (.inr (by show w.heap.size ≤ w.heap.size + 1; omega)) (.int .u64 ((n : Int) + 16)))))
        clear hg
        go_wp2_with fail
        refine HO.out.mono ?_
        rintro e W4 ⟨rfl, rfl⟩
        go_wp2_with fail
        generalize wr.setCell ⟨w.heap.size + 1, 1, none⟩ (.int .u64 ((n : Int) + 16)) = W6 at *
        refine (ref_own (w.heap.size + 1) (recG n L) _ _ W6 HG.out.1).mono ?_
        rintro e W7 ⟨rfl, rfl⟩
        have k6 := cell_of HG.out.1 (arrF_get 24 _ 0 (by omega))
        have f6 := free_of HG.out.1 0
        have p1 := set1 (i := 0) (p := own0 (recG n L)) HG.out.1
        have p0 := block_sc (a := ⟨w.heap.size + 1, 0, none⟩) (v := .int .u64 (own0 (recG n L))) (by show w.heap.size ≠ w.heap.size + 1; omega) HG.out.2.1
        have hE6 := Lib.hid (HG.out.2.2.setCell (p := ⟨w.heap.size + 1, 0, none⟩) (.inr (by show w.heap.size ≤ w.heap.size + 1; omega)) (.int .u64 (own0 (recG n L))))
        rw [show (fun i => if i = 0 then own0 (recG n L) else recG n L i) = packW n L from rfl] at p1
        go_wp2_with (first | ((with_reducible refine load25 p1 ?_ ?_); exact rfl) | ((with_reducible refine store25 (G := packW n L) p0 ?_ ?_ ?_); exact rfl; exact rfl; intro W7 hE7 hs7 hb7))
        refine bodyPost_ret (results_cell1 rfl _ _ w.heap.size _ _ _ _ rfl hb7 Try.underlying49 rfl (by rw [arrF_size]; exact sz25)) rfl ?_
        exact ⟨rfl, hE6.out.trans' hE7 (fun j hj => .inr (by simp at hj; omega))⟩
      · have hb : (own0 (recF n L n) == 0) = false := by simpa using hz0
        have HZ0 := Lib.hid hz0
        have hg' : wr.heap[w.heap.size + 1]? = some (.cells (arrF 24 (recG n L)) 49 (0, 0)) := by
          rw [show recG n L = recF n L n from by funext i; unfold recG; rw [if_neg HZ0.out]]
          exact H1.out
        have HG := Lib.hid (And.intro hg' HR.out.2)
        clear hz0 hg'
        go_wp2_with fail
        refine HO.out.mono ?_
        rintro e W4 ⟨rfl, rfl⟩
        go_wp2_with fail
        refine (ref_own (w.heap.size + 1) (recG n L) _ _ wr HG.out.1).mono ?_
        rintro e W7 ⟨rfl, rfl⟩
        have k6 := cell_of HG.out.1 (arrF_get 24 _ 0 (by omega))
        have f6 := free_of HG.out.1 0
        have p1 := set1 (i := 0) (p := own0 (recG n L)) HG.out.1
        have p0 := block_sc (a := ⟨w.heap.size + 1, 0, none⟩) (v := .int .u64 (own0 (recG n L))) (by show w.heap.size ≠ w.heap.size + 1; omega) HG.out.2.1
        have hE6 := Lib.hid (HG.out.2.2.setCell (p := ⟨w.heap.size + 1, 0, none⟩) (.inr (by show w.heap.size ≤ w.heap.size + 1; omega)) (.int .u64 (own0 (recG n L))))
        rw [show (fun i => if i = 0 then own0 (recG n L) else recG n L i) = packW n L from rfl] at p1
        go_wp2_with (first | ((with_reducible refine load25 p1 ?_ ?_); exact rfl) | ((with_reducible refine store25 (G := packW n L) p0 ?_ ?_ ?_); exact rfl; exact rfl; intro W7 hE7 hs7 hb7))
        refine bodyPost_ret (results_cell1 rfl _ _ w.heap.size _ _ _ _ rfl hb7 Try.underlying49 rfl (by rw [arrF_size]; exact sz25)) rfl ?_
        exact ⟨rfl, hE6.out.trans' hE7 (fun j hj => .inr (by simp at hj; omega))⟩
end Go.Proofs.Ytjdojckemphadaa
