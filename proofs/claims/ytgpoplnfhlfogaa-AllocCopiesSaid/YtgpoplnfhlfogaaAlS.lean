/- The document's pool: Right, Has, with, Those. -/
import Derived.Test.YtgpoplnfhlfogaaLnC
import Derived.Test.YtgpoplnfhlfogaaAlQ
import Derived.Test.YtgpoplnfhlfogaaAlI
namespace Go.Proofs.Ytgpoplnfhlfogaa
open Go Go.RowKit Go.Shelf

theorem infoLn : (Try.prog.info? 120).map (fun i => (i.zero, i.size, i.bytes)) = some (some (.agg #[.bool false, .int .i64 0]), 2, 16) := by kernel_rfl

def rightB (a b : Int) : Bool := decide (0 ≤ a) && decide (a ≤ b) && decide (b ≤ 1023)
set_option maxHeartbeats 400000 in
theorem rf_Right (a b : Int) (w : World) :
    Calls Try.prog 31 #[.int .i64 a, .int .i64 b] w fun e w' => e = .returned (.bool (rightB a b)) ∧ w = w' := by
  by_cases h1 : 0 ≤ a
  · by_cases h2 : a ≤ b
    · by_cases h3 : b ≤ 1023
      · have HR : Hid (rightB a b = true) := by unfold Hid rightB; simp [h1, h2, h3]
        go_enter Try.func31, Try.ntmps31
        go_wp2
        go_ret
        exact ⟨ret_bool HR.out, rfl⟩
      · have HR : Hid (rightB a b = false) := by unfold Hid rightB; simp [h3]
        go_enter Try.func31, Try.ntmps31
        go_wp2
        go_ret
        exact ⟨ret_bool HR.out, rfl⟩
    · have HR : Hid (rightB a b = false) := by unfold Hid rightB; simp [h2]
      go_enter Try.func31, Try.ntmps31
      go_wp2
      go_ret
      exact ⟨ret_bool HR.out, rfl⟩
  · have HR : Hid (rightB a b = false) := by unfold Hid rightB; simp [h1]
    go_enter Try.func31, Try.ntmps31
    go_wp2
    go_ret
    exact ⟨ret_bool HR.out, rfl⟩

set_option maxHeartbeats 1000000 in
theorem rf_Has (lo : Int) (ao : Option Addr) (n cap : Nat) (k : Int) (w : World) (h0 : -1000000000 ≤ lo) (h1 : lo + n ≤ 1000000000) :
    Calls Try.prog 80 #[.agg #[.int .i64 lo, .slice ao n cap], .int .i64 k] w fun e w' => e = .returned (.bool (hasB lo (lo + (n : Int) - 1) k)) ∧ Ext [] w w' := by
  by_cases h2 : lo ≤ k
  · by_cases h3 : k < lo + n
    · have HR : Hid (hasB lo (lo + (n : Int) - 1) k = true) := by unfold Hid hasB; simp [h2]; omega
      go_enter Try.func80, Try.ntmps80
      go_wp2
      go_ret
      exact ⟨ret_bool HR.out, (Ext.refl _ _).alloc _⟩
    · have HR : Hid (hasB lo (lo + (n : Int) - 1) k = false) := by unfold Hid hasB; simp; omega
      go_enter Try.func80, Try.ntmps80
      go_wp2
      go_ret
      exact ⟨ret_bool HR.out, (Ext.refl _ _).alloc _⟩
  · have HR : Hid (hasB lo (lo + (n : Int) - 1) k = false) := by unfold Hid hasB; simp [h2]
    go_enter Try.func80, Try.ntmps80
    go_wp2
    go_ret
    exact ⟨ret_bool HR.out, (Ext.refl _ _).alloc _⟩

/-- a struct in a cell of one's own, as a result -/
theorem results_agg {P : Program} {fn : Func} {p : Tmp} {ty : TypeId} (h : fn.results = #[.cell p ty]) (tmps : Array Value) (w : World) (g : Nat) (t : TypeId) (cs : Array Value) (fr : Nat × Nat) (d : TypeDesc)
    (hp : tmps.getD p undef = .pointer (some ⟨g, 0, none⟩)) (hg : w.heap[g]? = some (.cells cs t fr))
    (hu : P.underlying ty = some d) (hd : (match d with | .struct _ | .array _ _ => true | _ => false) = true) (hi : (P.info? ty).map (·.size) = some cs.size) :
    (results fn tmps).run P w = .ok (.agg cs) w := by
  have hp' : tmps[p]?.getD undef = .pointer (some ⟨g, 0, none⟩) := by simpa using hp
  simp [results, h, hp', asAddr, run_loadVar_row w g t ty cs fr d hg hu hd hi]

theorem al2_heap0 (w : World) (o : Obj) (b : Array Value) (tb : TypeId) (_x : Nat) : ((w.alloc o).alloc (.cells b tb)).heap[w.heap.size + 1]? = some (.cells b tb (0, 0)) := by
  have := World.alloc_heap_new (w.alloc o) (.cells b tb)
  rwa [World.size_alloc] at this
theorem RPl.of_owns {w : World} {B e g n cap : Nat} {lo : Int} {S : Lns} {xs : List Value} (h : w.ownsRow B e 2 (.slice (some ⟨g, 0, none⟩) n cap) n xs)
    (hx : ∀ i, i < n → xs[i * 2]? = some (.bool (S (lo + (i : Int))).1) ∧ xs[i * 2 + 1]? = some (.int .i64 (S (lo + (i : Int))).2)) : RPl w (some ⟨g, 0, none⟩) lo n S := by
  refine .inr ⟨g, 0, rfl, fun i hi => ?_⟩
  have h1 := h.cellAt (i * 2) (by omega)
  have h2 := h.cellAt (i * 2 + 1) (by omega)
  rw [(hx i hi).1] at h1
  rw [(hx i hi).2] at h2
  rw [Nat.zero_add]
  exact ⟨h1, h2⟩
theorem pair_set0 {w : World} {b : Nat} {x v u : Value} {t : TypeId} (h : w.heap[b]? = some (.cells #[x, v] t (0, 0))) : (w.setCell ⟨b, 0, none⟩ u).heap[b]? = some (.cells #[u, v] t (0, 0)) := by
  simp only [World.setCell, Array.getElem?_modify, if_true, h]; rfl
theorem pair_set1 {w : World} {b : Nat} {x v u : Value} {t : TypeId} (h : w.heap[b]? = some (.cells #[x, v] t (0, 0))) : (w.setCell ⟨b, 1, none⟩ u).heap[b]? = some (.cells #[x, u] t (0, 0)) := by
  simp only [World.setCell, Array.getElem?_modify, if_true, h]; rfl
theorem with_fin {w w5 : World} {lo : Int} {n j g cap' : Nat} {S : Lns} {t : Bool} {u : Int} {x0 x1 : Value} (ho : w5.ownsRow (w.heap.size + 1 + 1) 120 2 (.slice (some ⟨g, 0, none⟩) n cap') n (lnC (fun i => S (lo + (i : Int))) n))
    (hE : Ext [] w w5) (b6 : w5.heap[w.heap.size + 1]? = some (.cells #[x0, x1] 56 (0, 0))) (hg : w.heap.size + 1 + 1 ≤ g) (hu : (setL S t (lo + (j : Int)) (lo + (j : Int))) = (t, u)) (W : World)
    (hW : W = (((((w5.setCell ⟨g, j * 2, none⟩ (.bool t)).setCell ⟨g, j * 2 + 1, none⟩ (.int .i64 u)).setCell ⟨w.heap.size + 1, 0, none⟩ (.int .i64 lo)).setCell ⟨w.heap.size + 1, 1, none⟩ (.slice (some ⟨g, 0, none⟩) n cap')).alloc (.cells #[.bool t, .int .i64 u] 120))) (hj : j < n) :
    W.heap[w.heap.size + 1]? = some (.cells #[.int .i64 lo, .slice (some ⟨g, 0, none⟩) n cap'] 56 (0, 0)) ∧ Ext [] w W ∧ RPl W (some ⟨g, 0, none⟩) lo n (setL S t (lo + (j : Int))) := by
  subst hW
  have o1 := ho.stored (j * 2) (.bool t)
  have o2 := o1.1.stored (j * 2 + 1) (.int .i64 u)
  have hne : w.heap.size + 1 ≠ g := by omega
  have e1 : Ext [w.heap.size + 1] ((w5.setCell ⟨g, j * 2, none⟩ (.bool t)).setCell ⟨g, j * 2 + 1, none⟩ (.int .i64 u)) ((((w5.setCell ⟨g, j * 2, none⟩ (.bool t)).setCell ⟨g, j * 2 + 1, none⟩ (.int .i64 u)).setCell ⟨w.heap.size + 1, 0, none⟩ (.int .i64 lo)).setCell ⟨w.heap.size + 1, 1, none⟩ (.slice (some ⟨g, 0, none⟩) n cap')) :=
    ((Ext.refl _ _).setCell (.inl (by simp)) _).setCell (.inl (by simp)) _
  refine ⟨block_al (pair_set1 (pair_set0 (block_sc hne (block_sc hne b6)))), ((((hE.setCell (.inr (by simp; omega)) _).setCell (.inr (by simp; omega)) _).setCell (.inr (by simp)) _).setCell (.inr (by simp)) _).alloc _, ?_⟩
  refine RPl.of_owns ((owns_ext o2.1 e1 (fun k hk => by simp [Value.ownBlock] at hk; simp; omega)).alloc _) (fun i hi => ?_)
  have hl := lnC_len (fun i => S (lo + (i : Int))) n
  have hgt := lnC_get (fun i => S (lo + (i : Int))) n i hi
  by_cases hij : i = j
  · subst hij
    rw [hu]
    refine ⟨?_, ?_⟩
    · rw [List.getElem?_set, if_neg (by omega), List.getElem?_set, if_pos rfl, if_pos (by rw [hl]; omega)]
    · rw [List.getElem?_set, if_pos rfl, if_pos (by rw [List.length_set, hl]; omega)]
  · have hs : setL S t (lo + (j : Int)) (lo + (i : Int)) = S (lo + (i : Int)) := by unfold setL; rw [if_neg (by omega)]
    rw [hs, List.getElem?_set, if_neg (by omega), List.getElem?_set, if_neg (by omega), List.getElem?_set, if_neg (by omega), List.getElem?_set, if_neg (by omega)]
    exact hgt

set_option maxRecDepth 100000 in
set_option maxHeartbeats 2000000 in
theorem rf_with (lo : Int) (ao : Option Addr) (n cap : Nat) (S : Lns) (k : Int) (t : Bool) (w : World) (h0 : -1000000000 ≤ lo) (h1 : lo + n ≤ 1000000000) (hn : n ≤ 1000000) (hR : RPl w ao lo n S) (hk0 : lo ≤ k) (hk1 : k < lo + n) (hB : CntB S) :
    Calls Try.prog 110 #[.agg #[.int .i64 lo, .slice ao n cap], .int .i64 k, .bool t] w fun e w' => ∃ ao' cap', e = .returned (.agg #[.int .i64 lo, .slice ao' n cap']) ∧ Ext [] w w' ∧ RPl w' ao' lo n (setL S t k) ∧ ∀ p, ao' = some p → w.heap.size ≤ p.block := by
  obtain ⟨j, rfl⟩ : ∃ j : Nat, k = lo + j := ⟨(k - lo).toNat, by omega⟩
  obtain ⟨i0, hi, hz0, hz1, hz2⟩ := info_parts infoLn
  have HS := Lib.hid ((hR.ext0 (((Ext.refl [] w).alloc (.cells #[.int .i64 lo, .slice ao n cap] 56)).alloc (.cells #[.int .i64 0, .slice none 0 0] 56))).src)
  have HB := Lib.hid (hB (lo + (j : Int)))
  clear hR hB
  go_enter Try.func110, Try.ntmps110
  go_wp2_with (at_builtin; refine wpList_append_any rfl _ _ 54 rfl _ 120 i0 (.agg #[.bool false, .int .i64 0]) 2 16 Try.underlying54 hi hz0 hz1 hz2 rfl (by decide) _ 0 [] rfl (World.ownsRow_nil _ _ _ _) ao n cap _ rfl HS.out (by unfold maxLen; omega) (by omega) (Nat.le_refl _) ?_)
  intro v1 w5 ho1 hE5 hl5
  have hE5' : Ext [] w w5 := (((Ext.refl [] w).alloc _).alloc _).trans hE5
  have b3 : w5.heap[w.heap.size]? = some (.cells #[.int .i64 lo, .slice ao n cap] 56 (0, 0)) := hE5.at (block_al (World.alloc_heap_new _ _)) (by simp [Value.ownBlock])
  have b6 : w5.heap[w.heap.size + 1]? = some (.cells #[.int .i64 0, .slice none 0 0] 56 (0, 0)) := hE5.at (al2_heap0 _ _ _ _ 0) (by simp [Value.ownBlock])
  rcases ho1.2 with ⟨_, hz⟩ | ⟨g, cap', cur, rfl, hgb, hgg, hnc, hcm, hcs, htk⟩
  · omega
  have hown := ho1
  have q0 := ho1.cellAt (j * 2) (by omega)
  have q1 := ho1.cellAt (j * 2 + 1) (by omega)
  rw [(lnC_get _ n j (by omega)).1] at q0
  rw [(lnC_get _ n j (by omega)).2] at q1
  have f0 := ho1.frozenAt (j * 2)
  have f1 := ho1.frozenAt (j * 2 + 1)
  have HO := Lib.hid (And.intro ho1 (And.intro hE5' (And.intro b3 b6)))
  have k1 := cell_of (j := 0) (v := .int .i64 lo) b3 rfl
  have g6 := free_of b6 0
  have g61 := free_of b6 1
  have m6 := cell_of (j := 0) (v := .int .i64 0) b6 rfl
  have m61 := cell_of (j := 1) (v := .slice none 0 0) b6 rfl
  have hkj : lo + (j : Int) - lo = (j : Int) := by omega
  have hjn : j < n := by omega
  have hu := HB.out
  have HKJ := Lib.hid hk1
  obtain ⟨hu0, hu1⟩ := hu
  have hgne : ¬ (g = w.heap.size) := by omega
  have z1 : w.heap.size < w5.heap.size := lt_of_block b3
  have z2 : w.heap.size + 1 < w5.heap.size := lt_of_block b6
  have z3 : g < w5.heap.size := lt_of_block hgg
  have hgne1 : ¬ (g = w.heap.size + 1) := by omega
  clear ho1 hE5 hE5' hl5 hown hgg hnc hcm hcs htk b3 b6 hk0 hk1
  obtain ⟨tb, htb⟩ : ∃ x, x = (S (lo + (j : Int))).1 := ⟨_, rfl⟩
  obtain ⟨u, huu⟩ : ∃ x, x = (S (lo + (j : Int))).2 := ⟨_, rfl⟩
  rw [← htb] at q0
  rw [← huu] at q1 hu0 hu1
  have HTU := Lib.hid (And.intro htb huu)
  clear htb huu
  cases t with
  | true =>
    go_wp2
    have hset : setL S true (lo + (j : Int)) (lo + (j : Int)) = (true, u + 1) := by unfold setL; rw [if_pos rfl, HTU.out.2]; rfl
    obtain ⟨r1, r2, r3⟩ := with_fin HO.out.1 HO.out.2.1 HO.out.2.2.2 hgb hset _ rfl hjn
    exact bodyPost_ret (v := .agg #[.int .i64 lo, .slice (some ⟨g, 0, none⟩) n cap']) (results_agg Try.results110 _ _ _ _ _ _ _ rfl r1 Try.underlying56 rfl (by kernel_rfl)) rfl ⟨_, _, rfl, r2, r3, fun p hp => by cases hp; show w.heap.size ≤ g; omega⟩
  | false =>
    go_wp2
    have hset : setL S false (lo + (j : Int)) (lo + (j : Int)) = (false, u) := by unfold setL; rw [if_pos rfl, HTU.out.2]; rfl
    obtain ⟨r1, r2, r3⟩ := with_fin HO.out.1 HO.out.2.1 HO.out.2.2.2 hgb hset _ rfl hjn
    exact bodyPost_ret (v := .agg #[.int .i64 lo, .slice (some ⟨g, 0, none⟩) n cap']) (results_agg Try.results110 _ _ _ _ _ _ _ rfl r1 Try.underlying56 rfl (by kernel_rfl)) rfl ⟨_, _, rfl, r2, r3, fun p hp => by cases hp; show w.heap.size ≤ g; omega⟩
end Go.Proofs.Ytgpoplnfhlfogaa
