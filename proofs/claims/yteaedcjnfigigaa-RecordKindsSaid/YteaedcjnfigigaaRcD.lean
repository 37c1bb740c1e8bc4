/- record.Unpack's helpers: gathered and its question. -/
import Derived.Test.YteaedcjnfigigaaRcC
import Derived.StillTailTactics
namespace Go.Proofs.Yteaedcjnfigigaa
open Go Go.RowKit

/-- the puts that words tell -/
def unpL (F : Nat → Int) (i : Nat) : Int × Int := (min (F (2 * i + 2)) 8192, F (2 * i + 3))
def putCells (G : Nat → Int × Int) : Nat → List Value
  | 0 => []
  | n + 1 => putCells G n ++ [.int .i64 (G n).1, .int .u64 (G n).2]
theorem putCells_len (G : Nat → Int × Int) (n : Nat) : (putCells G n).length = n * 2 := by
  induction n with
  | zero => rfl
  | succ n ih => simp [putCells, ih]; omega
theorem putCells_get (G : Nat → Int × Int) (n i : Nat) (h : i < n) : (putCells G n)[i * 2]? = some (.int .i64 (G i).1) ∧ (putCells G n)[i * 2 + 1]? = some (.int .u64 (G i).2) := by
  induction n with
  | zero => omega
  | succ n ih =>
    have hl := putCells_len G n
    by_cases hi : i < n
    · obtain ⟨h1, h2⟩ := ih hi
      simp only [putCells]
      rw [List.getElem?_append_left (by omega), List.getElem?_append_left (by omega)]
      exact ⟨h1, h2⟩
    · obtain rfl : i = n := by omega
      simp only [putCells]
      rw [List.getElem?_append_right (by omega), List.getElem?_append_right (by omega), hl]
      simp

theorem puts_of_owns {w : World} {B e : Nat} {v : Value} {n : Nat} {G : Nat → Int × Int} (h : w.ownsRow B e 2 v n (putCells G n)) : ∃ ao cap, v = .slice ao n cap ∧ Puts w ao n G := by
  rcases h.2 with ⟨rfl, rfl⟩ | ⟨g, cap, cur, rfl, _, hg, _, _, hcs, htake⟩
  · exact ⟨none, 0, rfl, .inl rfl⟩
  · refine ⟨_, cap, rfl, .inr ⟨g, 0, rfl, fun i hi => ?_⟩⟩
    obtain ⟨h1, h2⟩ := putCells_get G n i hi
    rw [← htake, List.getElem?_take, if_pos (by omega)] at h1 h2
    simp only [Nat.zero_add]
    exact ⟨by simp [World.cell?, hg]; simpa using h1, by simp [World.cell?, hg]; simpa using h2⟩

set_option maxRecDepth 100000 in
set_option maxHeartbeats 1000000 in
theorem rc_tell (r k : Nat) (F : Nat → Int) (e0 : TypeId) (w : World) (h : w.heap[r]? = some (.cells (arrF 24 F) e0 (0, 0))) (hk : k ≤ 10) (hF : 0 ≤ F (2 * k + 2)) :
    Calls Try.prog 24 #[.int .i64 k, .pointer (some ⟨r, 0, none⟩)] w fun e w' => e = .returned (.agg #[.int .i64 (unpL F k).1, .int .u64 (unpL F k).2]) ∧ Ext [] w w' := by
  have H := Lib.hid h
  have HPR := Lib.hid (fun W => rc_pair r k W (by omega))
  clear h
  go_enter Try.func24, Try.ntmps24
  have k1 : (w.alloc (.cells #[.int .i64 0, .int .u64 0] 47)).cell? ⟨r, 2 * k + 2, none⟩ = some (.int .u64 (F (2 * k + 2))) := cell_al (cell_of H.out (arrF_get 24 F _ (by omega)))
  have k2 : (w.alloc (.cells #[.int .i64 0, .int .u64 0] 47)).cell? ⟨r, 2 * k + 2 + 1, none⟩ = some (.int .u64 (F (2 * k + 3))) := cell_al (cell_of H.out (arrF_get 24 F (2 * k + 3) (by omega)))
  have hm : (unpL F k).1 = if 8192 < F (2 * k + 2) then 8192 else F (2 * k + 2) := by
    unfold unpL; simp only [Int.min_def]; split <;> split <;> omega
  rw [hm, show (unpL F k).2 = F (2 * k + 3) from rfl]
  clear hm
  generalize F (2 * k + 2) = x at *
  generalize F (2 * k + 3) = y at *
  by_cases hx : 8192 < x
  · rw [if_pos hx]
    go_wp2_with (go_at_call 21; refine (HPR.out _).mono ?_; rintro e w' ⟨rfl, rfl⟩)
    go_region
    all_goals go_wp2
    exact bodyPost_ret (v := .agg #[.int .i64 8192, .int .u64 y]) (by simp [results, Try.results24, go_sem]) rfl ⟨rfl, ((Ext.refl [] w).alloc _).drew⟩
  · rw [if_neg hx]
    go_wp2_with (go_at_call 21; refine (HPR.out _).mono ?_; rintro e w' ⟨rfl, rfl⟩)
    go_region
    all_goals go_wp2
    exact bodyPost_ret (v := .agg #[.int .i64 x, .int .u64 y]) (by simp [results, Try.results24, go_sem]) rfl ⟨rfl, ((Ext.refl [] w).alloc _).drew⟩

theorem infoPut : (Try.prog.info? 47).map (fun i => (i.zero, i.size, i.bytes)) = some (some (.agg #[.int .i64 0, .int .u64 0]), 2, 16) := by kernel_rfl

def GPost (w : World) (G : Nat → Int × Int) (n : Nat) (e : Ending) (w' : World) : Prop := ∃ v, e = .returned v ∧ w'.ownsRow w.heap.size 47 2 v n (putCells G n) ∧ Ext [] w w'

theorem ext_grown {w0 w w' : World} {v : Value} {B e : Nat} {n : Nat} {xs : List Value} (h : Ext [] w0 w) (hg : w.grownBy w' v.ownBlock) (ho : w.ownsRow B e 2 v n xs) (hB : w0.heap.size ≤ B) : Ext [] w0 w' :=
  h.trans' (m' := match v.ownBlock with | some k => [k] | none => []) (Ext.of_grownBy hg (fun k e => .inl (by rw [e]; simp))) (fun j hj => .inr (by
    cases hv : v.ownBlock with
    | none => rw [hv] at hj; cases hj
    | some k => rw [hv] at hj; simp at hj; subst hj; exact Nat.le_trans hB (ho.lt _ hv).1))

set_option maxRecDepth 100000 in
set_option maxHeartbeats 2000000 in
theorem rc_gathered (r n : Nat) (F : Nat → Int) (e0 : TypeId) (w : World) (h : w.heap[r]? = some (.cells (arrF 24 F) e0 (0, 0))) (hn : n ≤ 11) (hF : ∀ i, 0 ≤ F i) :
    Calls Try.prog 23 #[.int .i64 n, .func (.func 24) #[] #[.pointer (some ⟨r, 0, none⟩)]] w (GPost w (unpL F) n) := by
  have H := Lib.hid h
  have hF' := Lib.hid hF
  have hrl : r < w.heap.size := lt_of_block h
  obtain ⟨i0, hi, hz0, hz1, hz2⟩ := info_parts infoPut
  clear h hF
  go_enter Try.func23, Try.ntmps23
  go_wp2
  go_loopg [4, 7] n (fun k v i wr => ∃ (j : Nat), i = .int .i64 j ∧ j + k = n ∧ wr.ownsRow w.heap.size 47 2 v j (putCells (unpL F) j) ∧ Ext [] w wr)
  case atStart => exact ⟨0, rfl, by omega, World.ownsRow_nil _ _ _ _, Ext.refl _ _⟩
  case round =>
    obtain ⟨j, rfl, hjk, hown, hE⟩ := hrel
    have HR := Lib.hid (And.intro hown hE)
    clear hown hE
    by_cases hlt : j < n
    · have HT := Lib.hid (rc_tell r j F e0 wr (HR.out.2.at H.out (by simp)) (by omega) (hF'.out _))
      generalize hG : unpL F j = p at *
      obtain ⟨x, y⟩ := p
      have HG := Lib.hid hG
      clear hG
      go_wp2_with (first | (go_at_call 24; refine HT.out.mono ?_; rintro e W1 ⟨rfl, hE1⟩; have HE1 := Lib.hid hE1; clear hE1) | (at_builtin; refine wpList_append_own _ rfl _ _ 22 rfl w.heap.size 47 i0 (.agg #[.int .i64 0, .int .u64 0]) 2 16 Try.underlying22 hi hz0 hz1 hz2 rfl (by decide) _ _ _ rfl ((HR.out.1.kept HE1.out.grownBy (by cases h : Value.ownBlock _ <;> simp)).alloc _) ⟨W1.heap.size, 0, none⟩ 1 1 [.int .i64 x, .int .u64 y] rfl rfl (cell_two_new _ _ _ _) (by simp [Value.oneCell']) (by unfold maxLen; omega) (by omega) (by have := HE1.out.size; have := HR.out.2.size; simp; omega) ?_; intro v' w1 hown' hgrow _))
      go_roundg (n - (j + 1))
      case measure => omega
      case rel =>
        refine ⟨j + 1, by go_num, by omega, ?_, ext_grown ((HR.out.2.trans HE1.out).alloc _) hgrow ((HR.out.1.kept HE1.out.grownBy (by cases h : Value.ownBlock _ <;> simp)).alloc _) (Nat.le_refl _)⟩
        show w1.ownsRow _ _ _ _ _ (putCells (unpL F) j ++ [.int .i64 (unpL F j).1, .int .u64 (unpL F j).2])
        rw [HG.out]
        exact hown'
    · have hge : n ≤ j := by omega
      go_wp2
      go_ret
      refine ⟨_, rfl, ?_, HR.out.2⟩
      have := HR.out.1
      rwa [show j = n from by omega] at this
end Go.Proofs.Yteaedcjnfigigaa
