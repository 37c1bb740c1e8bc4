/- record.Unpack and Kind: what they answer. -/
import Derived.Test.YteaedcjnfigigaaRcD
import Derived.Test.YteaedcjnfigigaaRcM
namespace Go.Proofs.Yteaedcjnfigigaa
open Go Go.RowKit

/-- are two rows of 24 words the same? -/
def eqB (F G : Nat → Int) : Bool := (List.range 24).all fun i => F i == G i
theorem eqB_iff (F G : Nat → Int) : eqB F G = true ↔ ∀ i, i < 24 → F i = G i := by simp [eqB]

def unpN (F : Nat → Int) : Nat := (F 1 % 16).toNat
def unpE (F : Nat → Int) : Int :=
  if 11 < F 1 % 16 then 5 else if checkE (unpL F) (unpN F) ≠ 0 then 5 else if eqB (packW (unpN F) (unpL F)) F then 0 else 5
def UnpPost (w : World) (F : Nat → Int) (e : Ending) (w' : World) : Prop :=
  ∃ ao n cap, e = .returned (.tuple #[.slice ao n cap, .int .i64 (unpE F)]) ∧ Ext [] w w' ∧ (unpE F = 5 → ao = none ∧ n = 0 ∧ cap = 0) ∧ (unpE F = 0 → n = unpN F ∧ Puts w' ao n (unpL F))

def UnpPost' (w : World) (F : Nat → Int) (e : Ending) (w' : World) : Prop :=
  ∃ ao n cap, e = .returned (.tuple #[.slice ao n cap, .int .i64 (unpE F)]) ∧ Ext [] w w' ∧ (unpE F = 5 → ao = none ∧ n = 0 ∧ cap = 0) ∧ (unpE F = 0 → n = unpN F ∧ Puts w' ao n (unpL F)) ∧ (∀ p, ao = some p → w.heap.size ≤ p.block)
theorem owns_new {w : World} {B e : Nat} {ao : Option Addr} {n cap m : Nat} {xs : List Value} (h : w.ownsRow B e 2 (.slice ao n cap) m xs) : ∀ p, ao = some p → B ≤ p.block := by
  rintro p rfl
  exact (h.lt _ rfl).1
theorem build64 (F : Nat → Int) (w : World) : (Instr.build 51 #[(0, .agg (arrF 24 F))]).run Try.prog w = .ok (.agg (arrF 24 F)) w := by kernel_rfl
theorem ne25 (F G : Nat → Int) (w : World) : (binOp .neq 25 (.agg (arrF 24 F)) (.agg (arrF 24 G))).run Try.prog w = .ok (.bool (!eqB F G)) w := run_neArr w _ 24 24 .u64 Try.underlying25 Try.underlying24 (by kernel_rfl) F G
theorem eq25 (F G : Nat → Int) (w : World) : (binOp .eql 25 (.agg (arrF 24 F)) (.agg (arrF 24 G))).run Try.prog w = .ok (.bool (eqB F G)) w := run_eqArr w _ 24 24 .u64 Try.underlying25 Try.underlying24 (by kernel_rfl) F G
theorem load25g {ops : Array Oper} {rest : List Oper} {dst : Option Tmp} {x : Operand} {ty : TypeId} {pos : String} {aft : Array Edge} {gd : Option (Nat × Bool)} {a : Act} {w : World} {Q : Exit → Act → World → Prop} {g : Nat} {t : TypeId} {F : Nat → Int} {fr : Nat × Nat}
    (hg : w.heap[g]? = some (.cells (arrF 24 F) t fr)) (hw : Region.wanted { dst := dst, op := .load 25 x, type := ty, pos := pos, after := aft, guard := gd } (yielded ops a.tmps) = true) (hx : a.eval x = .pointer (some ⟨g, 0, none⟩)) (h : wpList Try.prog ops Q rest (a.put dst (.agg (arrF 24 F))) w) :
    wpList Try.prog ops Q ({ dst := dst, op := .load 25 x, type := ty, pos := pos, after := aft, guard := gd } :: rest) a w :=
  wpList_loadrow _ _ rfl hw g hx t _ fr _ hg Try.underlying25 rfl (by rw [arrF_size]; exact sz25) h
theorem store64 {ops : Array Oper} {rest : List Oper} {dst : Option Tmp} {x y : Operand} {ty : TypeId} {pos : String} {aft : Array Edge} {a : Act} {w : World} {Q : Exit → Act → World → Prop} {g : Nat} {t : TypeId} {F G : Nat → Int}
    (hg : w.heap[g]? = some (.cells (arrF 24 F) t (0, 0))) (hx : a.eval x = .pointer (some ⟨g, 0, none⟩)) (hy : a.eval y = .agg (arrF 24 G))
    (h : ∀ W, Ext [g] w W → W.heap.size = w.heap.size → W.heap[g]? = some (.cells (arrF 24 G) t (0, 0)) → wpList Try.prog ops Q rest (a.put dst undef) W) :
    wpList Try.prog ops Q ({ dst := dst, op := .store 51 x y, type := ty, pos := pos, after := aft, guard := none } :: rest) a w :=
  wpList_storerow _ _ _ rfl rfl g hx t _ _ hy hg (by rw [arrF_size]; kernel_rfl) (by rw [arrF_size, arrF_size]) (arrF_one _ _) h

/-- the store of a whole record into a fresh one -/
theorem store64z {ops : Array Oper} {rest : List Oper} {dst : Option Tmp} {x y : Operand} {ty : TypeId} {pos : String} {aft : Array Edge} {a : Act} {w : World} {Q : Exit → Act → World → Prop} {g : Nat} {G : Nat → Int}
    (hg : w.heap.size = g) (hx : a.eval x = .pointer (some ⟨g, 0, none⟩)) (hy : a.eval y = .agg (arrF 24 G))
    (h : ∀ W, Ext [] w W → W.heap.size = g + 1 → W.heap[g]? = some (.cells (arrF 24 G) 51 (0, 0)) → wpList Try.prog ops Q rest (a.put dst undef) W) :
    wpList Try.prog ops Q ({ dst := dst, op := .store 51 x y, type := ty, pos := pos, after := aft, guard := none } :: rest) a (w.alloc (.cells #[.int .u64 0, .int .u64 0, .int .u64 0, .int .u64 0, .int .u64 0, .int .u64 0, .int .u64 0, .int .u64 0, .int .u64 0, .int .u64 0, .int .u64 0, .int .u64 0, .int .u64 0, .int .u64 0, .int .u64 0, .int .u64 0, .int .u64 0, .int .u64 0, .int .u64 0, .int .u64 0, .int .u64 0, .int .u64 0, .int .u64 0, .int .u64 0] 51)) := by
  subst hg
  rw [← arr0]
  exact store64 (World.alloc_heap_new _ _) hx hy (fun W h1 h2 h3 => h W (((Ext.refl [] w).alloc _).trans' h1 (fun j hj => .inr (by simp at hj; omega))) (by rw [h2, World.size_alloc]) h3)

/-- the store of words into fresh ones -/
theorem store25z {ops : Array Oper} {rest : List Oper} {dst : Option Tmp} {x y : Operand} {ty : TypeId} {pos : String} {aft : Array Edge} {a : Act} {w : World} {Q : Exit → Act → World → Prop} {g : Nat} {G : Nat → Int}
    (hg : w.heap.size = g) (hx : a.eval x = .pointer (some ⟨g, 0, none⟩)) (hy : a.eval y = .agg (arrF 24 G))
    (h : ∀ W, Ext [] w W → W.heap.size = g + 1 → W.heap[g]? = some (.cells (arrF 24 G) 25 (0, 0)) → wpList Try.prog ops Q rest (a.put dst undef) W) :
    wpList Try.prog ops Q ({ dst := dst, op := .store 25 x y, type := ty, pos := pos, after := aft, guard := none } :: rest) a (w.alloc (.cells #[.int .u64 0, .int .u64 0, .int .u64 0, .int .u64 0, .int .u64 0, .int .u64 0, .int .u64 0, .int .u64 0, .int .u64 0, .int .u64 0, .int .u64 0, .int .u64 0, .int .u64 0, .int .u64 0, .int .u64 0, .int .u64 0, .int .u64 0, .int .u64 0, .int .u64 0, .int .u64 0, .int .u64 0, .int .u64 0, .int .u64 0, .int .u64 0] 25)) := by
  subst hg
  rw [← arr0]
  exact store25 (World.alloc_heap_new _ _) hx hy (fun W h1 h2 h3 => h W (((Ext.refl [] w).alloc _).trans' h1 (fun j hj => .inr (by simp at hj; omega))) (by rw [h2, World.size_alloc]) h3)

theorem unpN_eq (F : Nat → Int) (h : 0 ≤ F 1) : F 1 % 16 = ((unpN F : Nat) : Int) := by unfold unpN; omega

set_option maxRecDepth 100000 in
set_option maxHeartbeats 4000000 in
theorem rc_unpack' (F : Nat → Int) (w : World) (hF : ∀ i, 0 ≤ F i) :
    Calls Try.prog 13 #[.agg (arrF 24 F)] w (UnpPost' w F) := by
  have HF := Lib.hid hF
  have hF0 := unpN_eq F (hF 1)
  have hF1 : (F 1).tmod 16 = ((unpN F : Nat) : Int) := by rw [Int.tmod_eq_emod_of_nonneg (hF 1), hF0]
  obtain ⟨N, hN⟩ : ∃ N, N = unpN F := ⟨_, rfl⟩
  rw [← hN] at hF1 hF0
  have hN16 : N < 16 := by omega
  have HF0 := Lib.hid hF0
  have HN := Lib.hid hN
  clear hN hF0
  have hne := ne25
  have hsz := arrF_size 24 F
  have hcf := enters_of Try.func24 (by kernel_rfl) rfl
  have hwr : wrap64 ((F 1).tmod 16) = (N : Int) := by rw [hF1]; exact IntWalk.wrap64_in _ (by omega)
  clear hF
  have a1 : (w.alloc (.cells (arrF 24 F) 25)).heap[w.heap.size]? = some (.cells (arrF 24 F) 25 (0, 0)) := World.alloc_heap_new _ _
  have hE0 := Lib.hid ((Ext.refl [] w).alloc (.cells (arrF 24 F) 25))
  by_cases h11 : 11 < N
  · have hgt : decide ((11 : Int) < (F 1).tmod 16) = true := by rw [hF1]; simp; omega
    have hu : Hid (unpE F = 5) := by
      show unpE F = 5
      unfold unpE; rw [HF0.out, if_pos (by omega)]
    go_enter Try.func13, Try.ntmps13
    go_wp2_with (first | ((with_reducible refine load25 a1 ?_ ?_); exact rfl) | ((with_reducible refine store64z (g := w.heap.size + 1) (G := F) ?_ ?_ ?_ ?_); exact World.size_alloc _ _; exact rfl; kernel_rfl; intro W2 hE2 hs2 hb2; have b2 := hE2.at a1 (by simp); have c2 := cell_of b2 (arrF_get 24 F 1 (by omega))))
    go_ret2
    exact ⟨none, 0, 0, by rw [hu.out]; rfl, hE0.out.trans hE2, fun _ => ⟨rfl, rfl, rfl⟩, fun h => absurd h (by rw [hu.out]; decide), fun p h => by cases h⟩
  · have hgt : decide ((11 : Int) < (F 1).tmod 16) = false := by rw [hF1]; simp; omega
    go_enter Try.func13, Try.ntmps13
    go_wp2_with (first | ((with_reducible refine load25 a1 ?_ ?_); exact rfl) | ((with_reducible refine store64z (g := w.heap.size + 1) (G := F) ?_ ?_ ?_ ?_); exact World.size_alloc _ _; exact rfl; kernel_rfl; intro W2 hE2 hs2 hb2; have b2 := hE2.at a1 (by simp); have c2 := cell_of b2 (arrF_get 24 F 1 (by omega))))
    refine (rc_gathered (w.heap.size + 1) N F _ W2 hb2 (by omega) HF.out).mono ?_
    rintro e W3 ⟨v, rfl, hown, hE3⟩
    obtain ⟨ao, cap, rfl, hputs⟩ := puts_of_owns hown
    have hnew := Lib.hid (owns_new hown)
    clear hown
    have HP := Lib.hid hputs
    have hE3' := Lib.hid (And.intro (hE0.out.trans hE2) hE3)
    have b3 := Lib.hid (hE3.at b2 (by simp))
    clear hputs hE2 hE3 b2 c2 hb2
    go_wp2_with fail
    refine (rc_pack ao N cap (unpL F) W3 HP.out (by omega)).mono ?_
    rintro e W4 ⟨rfl, hE4⟩
    have b4 := hE4.at b3.out (by simp)
    have HE4 := Lib.hid hE4
    clear hE4
    by_cases hz : checkE (unpL F) N = 0
    · rw [if_pos hz, hz]
      have HZ := Lib.hid hz
      clear hz
      cases hq : eqB (packW N (unpL F)) F with
      | true =>
        have hu : Hid (unpE F = 0) := by
          show unpE F = 0
          unfold unpE; rw [HF0.out, if_neg (by omega), ← HN.out, if_neg (by rw [HZ.out]; decide), if_pos hq]
        go_wp2_with (first | ((with_reducible refine load25g b5 ?_ ?_ ?_); exact rfl; exact rfl) | ((with_reducible refine load25g hb5 ?_ ?_ ?_); exact rfl; exact rfl) | ((with_reducible refine store25z (g := W4.heap.size) (G := packW N (unpL F)) ?_ ?_ ?_ ?_); exact rfl; exact rfl; exact rfl; intro W5 hE5 hs5 hb5; have b5 := hE5.at b4 (by simp)))
        go_ret2
        refine ⟨ao, N, cap, by rw [hu.out]; rfl, ((hE3'.out.1.trans hE3'.out.2).trans HE4.out).trans hE5, fun h => absurd h (by rw [hu.out]; decide), fun _ => ⟨HN.out, (HP.out.ext HE4.out).ext hE5⟩, fun p h => Nat.le_trans (hE3'.out.1.size) (hnew.out p h)⟩
      | false =>
        have hu : Hid (unpE F = 5) := by
          show unpE F = 5
          unfold unpE; rw [HF0.out, if_neg (by omega), ← HN.out, if_neg (by rw [HZ.out]; decide), if_neg (by rw [hq]; decide)]
        go_wp2_with (first | ((with_reducible refine load25g b5 ?_ ?_ ?_); exact rfl; exact rfl) | ((with_reducible refine load25g hb5 ?_ ?_ ?_); exact rfl; exact rfl) | ((with_reducible refine store25z (g := W4.heap.size) (G := packW N (unpL F)) ?_ ?_ ?_ ?_); exact rfl; exact rfl; exact rfl; intro W5 hE5 hs5 hb5; have b5 := hE5.at b4 (by simp)))
        go_ret2
        exact ⟨none, 0, 0, by rw [hu.out]; rfl, ((hE3'.out.1.trans hE3'.out.2).trans HE4.out).trans hE5, fun _ => ⟨rfl, rfl, rfl⟩, fun h => absurd h (by rw [hu.out]; decide), fun p h => by cases h⟩
    · rw [if_neg hz]
      have hu : Hid (unpE F = 5) := by
        show unpE F = 5
        unfold unpE; rw [HF0.out, if_neg (by omega), ← HN.out, if_pos hz]
      have hcs := (checkE_cases (unpL F) N).resolve_left hz
      clear hz
      rcases hcs with h | h | h <;> rw [h] <;> clear h
      all_goals
        go_wp2_with (first | ((with_reducible refine load25g b5 ?_ ?_ ?_); exact rfl; exact rfl) | ((with_reducible refine load25g hb5 ?_ ?_ ?_); exact rfl; exact rfl) | ((with_reducible refine store25z (g := W4.heap.size) (G := fun _ => 0) ?_ ?_ ?_ ?_); exact rfl; exact rfl; exact rfl; intro W5 hE5 hs5 hb5; have b5 := hE5.at b4 (by simp)))
        go_ret2
        exact ⟨none, 0, 0, by rw [hu.out]; rfl, ((hE3'.out.1.trans hE3'.out.2).trans HE4.out).trans hE5, fun _ => ⟨rfl, rfl, rfl⟩, fun h => absurd h (by rw [hu.out]; decide), fun p h => by cases h⟩
theorem rc_unpack (F : Nat → Int) (w : World) (hF : ∀ i, 0 ≤ F i) :
    Calls Try.prog 13 #[.agg (arrF 24 F)] w (UnpPost w F) :=
  (rc_unpack' F w hF).mono fun _ _ ⟨ao, n, cap, h1, h2, h3, h4, _⟩ => ⟨ao, n, cap, h1, h2, h3, h4⟩
end Go.Proofs.Yteaedcjnfigigaa
