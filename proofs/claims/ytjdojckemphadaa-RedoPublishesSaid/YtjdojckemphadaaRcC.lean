/- record.Pack: what it answers. -/
import Derived.Test.YtjdojckemphadaaRcB
import Derived.Deep.RegionWith
import Derived.Deep.RegionHeld3
namespace Go.Proofs.Ytjdojckemphadaa
open Go Go.RowKit

/-- the words of a record under way: j puts of n are in it -/
def recF (n : Nat) (L : Nat → Int × Int) (j i : Nat) : Int :=
  if i = 1 then n else if 2 ≤ i ∧ i < 2 * j + 2 then (if i % 2 = 0 then (L ((i - 2) / 2)).1 else (L ((i - 2) / 2)).2) else 0
theorem recF_succ (n : Nat) (L : Nat → Int × Int) (j i : Nat) : recF n L (j + 1) i = if i = 2 * j + 2 then (L j).1 else if i = 2 * j + 2 + 1 then (L j).2 else recF n L j i := by
  unfold recF
  by_cases h1 : i = 1
  · rw [if_pos h1, if_neg (show ¬ i = 2 * j + 2 by omega), if_neg (show ¬ i = 2 * j + 2 + 1 by omega), if_pos h1]
  · rw [if_neg h1, if_neg h1]
    by_cases i1 : i = 2 * j + 2
    · rw [if_pos (show 2 ≤ i ∧ i < 2 * (j + 1) + 2 by omega), if_pos (show i % 2 = 0 by omega), if_pos i1, show (i - 2) / 2 = j from by omega]
    · rw [if_neg i1]
      by_cases i2 : i = 2 * j + 2 + 1
      · rw [if_pos (show 2 ≤ i ∧ i < 2 * (j + 1) + 2 by omega), if_neg (show ¬ i % 2 = 0 by omega), if_pos i2, show (i - 2) / 2 = j from by omega]
      · rw [if_neg i2]
        by_cases i4 : 2 ≤ i ∧ i < 2 * j + 2
        · rw [if_pos (show 2 ≤ i ∧ i < 2 * (j + 1) + 2 by omega), if_pos i4]
        · rw [if_neg (show ¬ (2 ≤ i ∧ i < 2 * (j + 1) + 2) by omega), if_neg i4]
def own0 (F : Nat → Int) : Int := mixN sum0 (fun i => F (i + 1)) 23
def recG (n : Nat) (L : Nat → Int × Int) (i : Nat) : Int := if own0 (recF n L n) = 0 then (if i = 1 then (n : Int) + 16 else recF n L n i) else recF n L n i
def packW (n : Nat) (L : Nat → Int × Int) (i : Nat) : Int := if i = 0 then own0 (recG n L) else recG n L i
def PackPost (w : World) (L : Nat → Int × Int) (n : Nat) (e : Ending) (w' : World) : Prop :=
  e = .returned (.tuple #[.agg (arrF 24 (if checkE L n = 0 then packW n L else fun _ => 0)), .int .i64 (checkE L n)]) ∧ Ext [] w w'

theorem sz25 : (Try.prog.info? 49).map (·.size) = some 24 := by kernel_rfl
theorem sz62 : (Try.prog.info? 69).map (·.size) = some 24 := by kernel_rfl

theorem load62 {ops : Array Oper} {rest : List Oper} {dst : Option Tmp} {x : Operand} {ty : TypeId} {pos : String} {aft : Array Edge} {a : Act} {w : World} {Q : Exit → Act → World → Prop} {g : Nat} {t : TypeId} {F : Nat → Int} {fr : Nat × Nat}
    (hg : w.heap[g]? = some (.cells (arrF 24 F) t fr)) (hx : a.eval x = .pointer (some ⟨g, 0, none⟩)) (h : wpList Try.prog ops Q rest (a.put dst (.agg (arrF 24 F))) w) :
    wpList Try.prog ops Q ({ dst := dst, op := .load 69 x, type := ty, pos := pos, after := aft, guard := none } :: rest) a w :=
  wpList_loadrow _ _ rfl rfl g hx t _ fr _ hg Try.underlying69 rfl (by rw [arrF_size]; exact sz62) h
theorem load25 {ops : Array Oper} {rest : List Oper} {dst : Option Tmp} {x : Operand} {ty : TypeId} {pos : String} {aft : Array Edge} {a : Act} {w : World} {Q : Exit → Act → World → Prop} {g : Nat} {t : TypeId} {F : Nat → Int} {fr : Nat × Nat}
    (hg : w.heap[g]? = some (.cells (arrF 24 F) t fr)) (hx : a.eval x = .pointer (some ⟨g, 0, none⟩)) (h : wpList Try.prog ops Q rest (a.put dst (.agg (arrF 24 F))) w) :
    wpList Try.prog ops Q ({ dst := dst, op := .load 49 x, type := ty, pos := pos, after := aft, guard := none } :: rest) a w :=
  wpList_loadrow _ _ rfl rfl g hx t _ fr _ hg Try.underlying49 rfl (by rw [arrF_size]; exact sz25) h
theorem store25 {ops : Array Oper} {rest : List Oper} {dst : Option Tmp} {x y : Operand} {ty : TypeId} {pos : String} {aft : Array Edge} {a : Act} {w : World} {Q : Exit → Act → World → Prop} {g : Nat} {t : TypeId} {F G : Nat → Int}
    (hg : w.heap[g]? = some (.cells (arrF 24 F) t (0, 0))) (hx : a.eval x = .pointer (some ⟨g, 0, none⟩)) (hy : a.eval y = .agg (arrF 24 G))
    (h : ∀ W, Ext [g] w W → W.heap.size = w.heap.size → W.heap[g]? = some (.cells (arrF 24 G) t (0, 0)) → wpList Try.prog ops Q rest (a.put dst undef) W) :
    wpList Try.prog ops Q ({ dst := dst, op := .store 49 x y, type := ty, pos := pos, after := aft, guard := none } :: rest) a w :=
  wpList_storerow _ _ _ rfl rfl g hx t _ _ hy hg (by rw [arrF_size]; exact sz25) (by rw [arrF_size, arrF_size]) (arrF_one _ _) h

theorem arr0 : (arrF 24 fun _ => 0) = #[.int .u64 0, .int .u64 0, .int .u64 0, .int .u64 0, .int .u64 0, .int .u64 0, .int .u64 0, .int .u64 0, .int .u64 0, .int .u64 0, .int .u64 0, .int .u64 0, .int .u64 0, .int .u64 0, .int .u64 0, .int .u64 0, .int .u64 0, .int .u64 0, .int .u64 0, .int .u64 0, .int .u64 0, .int .u64 0, .int .u64 0, .int .u64 0] := rfl
theorem ent11 (args : Array Value) (w : World) : (callFunc 33 args).run Try.prog w = .ok (.enter 33 args) w := enters_of Try.func33 (by kernel_rfl) rfl args w

set_option maxRecDepth 100000 in
set_option maxHeartbeats 4000000 in
theorem rc_pack (ao : Option Addr) (n cap : Nat) (L : Nat → Int × Int) (w : World) (hp : Puts w ao n L) (hn : n ≤ 9223372036854775807) :
    Calls Try.prog 17 #[.slice ao n cap] w (PackPost w L n) := by
  have HP := Lib.hid hp
  clear hp
  go_enter Try.func17, Try.ntmps17
  go_wp2_with fail
  rw [← arr0]
  have hs1 : (w.alloc (.cells (arrF 24 fun _ => 0) 49)).heap.size = w.heap.size + 1 := World.size_alloc _ _
  have hb0 : ((w.alloc (.cells (arrF 24 fun _ => 0) 49)).alloc (.cells (arrF 24 fun _ => 0) 71)).heap[w.heap.size]? = some (.cells (arrF 24 fun _ => 0) 49 (0, 0)) := block_al (World.alloc_heap_new _ _)
  have hb1 : ((w.alloc (.cells (arrF 24 fun _ => 0) 49)).alloc (.cells (arrF 24 fun _ => 0) 71)).heap[w.heap.size + 1]? = some (.cells (arrF 24 fun _ => 0) 71 (0, 0)) := by rw [← hs1]; exact World.alloc_heap_new _ _
  refine (rc_check ao n cap L _ (HP.out.ext (((Ext.refl [] w).alloc _).alloc _)) hn).mono ?_
  rintro e W1 ⟨rfl, hE1⟩
  have HE := Lib.hid (And.intro (((Ext.refl [] w).alloc _).alloc _ |>.trans hE1) (And.intro (hE1.at hb0 (by simp)) (And.intro (hE1.at hb1 (by simp)) (by have := hE1.size; rw [World.size_alloc, World.size_alloc] at this; exact this))))
  clear hb0 hb1 hE1 hs1
  by_cases hz : checkE L n = 0
  · have hok : okN L n = true ∧ n ≤ 11 ∧ n ≠ 0 := by
      unfold checkE at hz
      split at hz
      · split at hz
        · omega
        · split at hz
          · omega
          · exact ⟨by assumption, by omega, by assumption⟩
      · omega
    have HZ := Lib.hid (And.intro hz hok)
    obtain ⟨_, hn11, _⟩ := hok
    rw [hz]
    clear hz
    have h1 := HE.out.2.2.1
    have k1 := cell_of h1 (arrF_get 24 _ 1 (by omega))
    have f1 := free_of h1 1
    clear h1
    go_wp2
    have hst : (W1.setCell ⟨w.heap.size + 1, 1, none⟩ (.int .u64 n)).heap[w.heap.size + 1]? = some (.cells (arrF 24 (recF n L 0)) 71 (0, 0)) := by
      have h := HE.out.2.2.1
      simp only [World.setCell, Array.getElem?_modify, if_true, h]
      simp only [Option.map_some, Option.isSome_none, Bool.false_eq_true, if_false, arrF_set]
      rw [arrF_congr 24 _ (recF n L 0)]
      intro i _
      unfold recF
      by_cases hi : i = 1
      · rw [if_pos hi, if_pos hi]
      · rw [if_neg hi, if_neg hi, if_neg (by omega)]
    have HST := Lib.hid (And.intro hst (And.intro (block_sc (a := ⟨w.heap.size + 1, 1, none⟩) (v := .int .u64 n) (by show w.heap.size ≠ w.heap.size + 1; omega) HE.out.2.1) (HE.out.1.setCell (p := ⟨w.heap.size + 1, 1, none⟩) (.inr (by show w.heap.size ≤ w.heap.size + 1; omega)) (.int .u64 n))))
    clear hst k1 f1
    go_loopg [22] n (fun k i wr => ∃ (j : Nat), i = .int .i64 j ∧ j + k = n ∧ wr.heap[w.heap.size + 1]? = some (.cells (arrF 24 (recF n L j)) 71 (0, 0)) ∧ wr.heap[w.heap.size]? = some (.cells (arrF 24 fun _ => 0) 49 (0, 0)) ∧ Ext [] w wr)
    case atStart => exact ⟨0, rfl, by omega, HST.out⟩
    case round =>
      obtain ⟨j, rfl, hjk, hr1, hr0, hE⟩ := hrel
      have HR := Lib.hid (And.intro hr1 (And.intro hr0 hE))
      clear hr1 hr0 hE
      by_cases hlt : j < n
      · obtain ⟨b, off, rfl, hcell⟩ : ∃ b off, ao = some ⟨b, off, none⟩ ∧ wr.cell? ⟨b, off + j * 2, none⟩ = some (.int .i64 (L j).1) ∧ wr.cell? ⟨b, off + j * 2 + 1, none⟩ = some (.int .u64 (L j).2) := by
          rcases HP.out.ext HR.out.2.2 with h | ⟨b, off, h1, h2⟩
          · omega
          · exact ⟨b, off, h1, h2 j hlt⟩
        obtain ⟨k1, k2⟩ := hcell
        obtain ⟨x, hx⟩ : ∃ x, x = (L j).1 := ⟨_, rfl⟩
        obtain ⟨y, hy⟩ : ∃ y, y = (L j).2 := ⟨_, rfl⟩
        have hxr : 0 ≤ x ∧ x < 8192 := by
          have h1 := okN_le HZ.out.2.1 (j + 1) hlt
          simp only [okN, ← hx] at h1
          simp at h1
          omega
        obtain ⟨hx0, hx1⟩ := hxr
        rw [← hx] at k1
        rw [← hy] at k2
        have HX := Lib.hid (And.intro hx hy)
        clear hx hy
        have HPR := Lib.hid (fun W => rc_pair (w.heap.size + 1) j W (by omega))
        have hsz : ((wr.alloc (.cells #[.int .i64 x, .int .u64 y] 36)).alloc (.cells #[.int .u64 (IntKind.u64.wrap x), .int .u64 y] 34)).drew.heap[wr.heap.size + 1]? = some (.cells #[.int .u64 (IntKind.u64.wrap x), .int .u64 y] 34 (0, 0)) := by
          have := World.alloc_heap_new (wr.alloc (.cells #[.int .i64 x, .int .u64 y] 36)) (.cells #[.int .u64 (IntKind.u64.wrap x), .int .u64 y] 34)
          rw [World.size_alloc] at this; exact this
        have e1 : ((wr.alloc (.cells #[.int .i64 x, .int .u64 y] 36)).alloc (.cells #[.int .u64 (IntKind.u64.wrap x), .int .u64 y] 34)).drew.heap[w.heap.size + 1]? = some (.cells (arrF 24 (recF n L j)) 71 (0, 0)) := block_al (block_al HR.out.1)
        have e0 : ((wr.alloc (.cells #[.int .i64 x, .int .u64 y] 36)).alloc (.cells #[.int .u64 (IntKind.u64.wrap x), .int .u64 y] 34)).drew.heap[w.heap.size]? = some (.cells (arrF 24 fun _ => 0) 49 (0, 0)) := block_al (block_al HR.out.2.1)
        have eE : Ext [] w ((wr.alloc (.cells #[.int .i64 x, .int .u64 y] 36)).alloc (.cells #[.int .u64 (IntKind.u64.wrap x), .int .u64 y] 34)).drew := ((HR.out.2.2.alloc _).alloc _).drew
        obtain ⟨W3, hcp, h31, h3E, _⟩ := copy2 (P := Try.prog) ((wr.alloc (.cells #[.int .i64 x, .int .u64 y] 36)).alloc (.cells #[.int .u64 (IntKind.u64.wrap x), .int .u64 y] 34)).drew 57 3 34 (w.heap.size + 1) (2 * j + 2) 24 2 2 ⟨wr.heap.size + 1, 0, none⟩ 71 (recF n L j) (IntKind.u64.wrap x) y
          Try.underlying57 (by kernel_rfl) e1 (holds_of_block hsz _ (fun j v h => by simpa using h)) (by omega)
        have hfin : Hid (W3.heap[w.heap.size + 1]? = some (.cells (arrF 24 (recF n L (j + 1))) 71 (0, 0)) ∧ W3.heap[w.heap.size]? = some (.cells (arrF 24 fun _ => 0) 49 (0, 0)) ∧ Ext [] w W3) := by
          refine ⟨?_, h3E.at e0 (by simp), eE.trans' h3E (fun j hj => .inr (by simp at hj; omega))⟩
          rw [h31, IntWalk.u64_in x (by omega)]
          rw [arrF_congr 24 _ (recF n L (j + 1))]
          intro i hi
          rw [recF_succ, ← HX.out.1, ← HX.out.2]
        clear hsz e1 e0 eE h31 h3E
        go_wp2
        go_region_with (go_at_call 34; refine (HPR.out _).mono ?_; rintro e w' ⟨rfl, rfl⟩)
        all_goals
          go_wp2
          go_roundg (n - (j + 1))
          case measure => omega
          case rel => exact ⟨j + 1, by go_num, by omega, hfin.out⟩
      · have hge : n ≤ j := by omega
        have hr1 : wr.heap[w.heap.size + 1]? = some (.cells (arrF 24 (recF n L n)) 71 (0, 0)) := by have := HR.out.1; rwa [show j = n from by omega] at this
        have HO := Lib.hid (rc_own (w.heap.size + 1) (recF n L n) _ _ wr hr1)
        have H1 := Lib.hid hr1
        clear hr1
        have ho : (mixN sum0 (fun i => recF n L n (i + 1)) 23) = own0 (recF n L n) := rfl
        rw [ho] at HO
        clear ho
        by_cases hz0 : own0 (recF n L n) = 0
        · have hb : (own0 (recF n L n) == 0) = true := by simpa using hz0
          have HZ0 := Lib.hid hz0
          rw [hz0] at HO
          clear hz0 hb
          go_wp2_with fail
          refine HO.out.mono ?_
          rintro e W4 ⟨rfl, hE4⟩
          have h41 := hE4.at H1.out (by simp)
          have h40 := hE4.at HR.out.2.1 (by simp)
          have k1 := cell_of h41 (arrF_get 24 _ 1 (by omega))
          have f1 := free_of h41 1
          rw [show recF n L n 1 = n from rfl] at k1
          have HE4 := Lib.hid (And.intro h41 (And.intro h40 (HR.out.2.2.trans hE4)))
          clear h41 h40 hE4
          have HG : Hid ((W4.setCell ⟨w.heap.size + 1, 1, none⟩ (.int .u64 ((n : Int) + 16))).heap[w.heap.size + 1]? = some (.cells (arrF 24 (recG n L)) 71 (0, 0)) ∧ (W4.setCell ⟨w.heap.size + 1, 1, none⟩ (.int .u64 ((n : Int) + 16))).heap[w.heap.size]? = some (.cells (arrF 24 fun _ => 0) 49 (0, 0)) ∧ Ext [] w (W4.setCell ⟨w.heap.size + 1, 1, none⟩ (.int .u64 ((n : Int) + 16)))) := by
            refine ⟨?_, block_sc (by show w.heap.size ≠ w.heap.size + 1; omega) HE4.out.2.1, HE4.out.2.2.setCell (.inr (by show w.heap.size ≤ w.heap.size + 1; omega)) _⟩
            have h := HE4.out.1
            simp only [World.setCell, Array.getElem?_modify, if_true, h]
            simp only [Option.map_some, Option.isSome_none, Bool.false_eq_true, if_false, arrF_set]
            rw [show recG n L = fun i => if i = 1 then (n : Int) + 16 else recF n L n i from by funext i; unfold recG; rw [if_pos HZ0.out]]
          have hw16 : IntKind.u64.wrap ((n : Int) + 16) = (n : Int) + 16 := IntWalk.u64_in _ (by omega)
          go_wp2_with fail
          refine (rc_own (w.heap.size + 1) (recG n L) _ _ _ HG.out.1).mono ?_
          rintro e W6 ⟨rfl, hE6⟩
          rw [show (mixN sum0 (fun i => recG n L (i + 1)) 23) = own0 (recG n L) from rfl]
          have h61 := hE6.at HG.out.1 (by simp)
          have HE6 := Lib.hid (And.intro h61 (And.intro (hE6.at HG.out.2.1 (by simp)) (HG.out.2.2.trans hE6)))
          have k6 := cell_of h61 (arrF_get 24 _ 0 (by omega))
          have f6 := free_of h61 0
          clear h61 hE6
          have e1 : Hid ((W6.setCell ⟨w.heap.size + 1, 0, none⟩ (.int .u64 (own0 (recG n L)))).heap[w.heap.size + 1]? = some (.cells (arrF 24 (packW n L)) 71 (0, 0)) ∧ (W6.setCell ⟨w.heap.size + 1, 0, none⟩ (.int .u64 (own0 (recG n L)))).heap[w.heap.size]? = some (.cells (arrF 24 fun _ => 0) 49 (0, 0)) ∧ Ext [] w (W6.setCell ⟨w.heap.size + 1, 0, none⟩ (.int .u64 (own0 (recG n L))))) := by
            refine ⟨?_, block_sc (by show w.heap.size ≠ w.heap.size + 1; omega) HE6.out.2.1, HE6.out.2.2.setCell (.inr (by show w.heap.size ≤ w.heap.size + 1; omega)) _⟩
            have h := HE6.out.1
            simp only [World.setCell, Array.getElem?_modify, if_true, h]
            simp only [Option.map_some, Option.isSome_none, Bool.false_eq_true, if_false, arrF_set]
            rfl
          have p1 := e1.out.1
          have p0 := e1.out.2.1
          go_wp2_with (first | ((with_reducible refine load62 p1 ?_ ?_); exact rfl) | ((with_reducible refine store25 (G := packW n L) p0 ?_ ?_ ?_); exact rfl; exact rfl; intro W7 hE7 hs7 hb7))
          refine bodyPost_ret (results_cell_tmp rfl _ _ w.heap.size _ _ _ _ rfl hb7 Try.underlying49 rfl (by rw [arrF_size]; exact sz25)) rfl ?_
          show _ ∧ _
          rw [if_pos HZ.out.1, HZ.out.1]
          exact ⟨rfl, e1.out.2.2.trans' hE7 (fun j hj => .inr (by simp at hj; omega))⟩
        · have hb : (own0 (recF n L n) == 0) = false := by simpa using hz0
          have HZ0 := Lib.hid hz0
          have HG' : Hid (wr.heap[w.heap.size + 1]? = some (.cells (arrF 24 (recG n L)) 71 (0, 0)) ∧ wr.heap[w.heap.size]? = some (.cells (arrF 24 fun _ => 0) 49 (0, 0)) ∧ Ext [] w wr) := by
            refine ⟨?_, HR.out.2⟩
            rw [show recG n L = recF n L n from by funext i; unfold recG; rw [if_neg HZ0.out]]
            exact H1.out
          clear hz0
          go_wp2_with fail
          refine HO.out.mono ?_
          rintro e W4 ⟨rfl, hE4⟩
          have HG := Lib.hid (And.intro (hE4.at HG'.out.1 (by simp)) (And.intro (hE4.at HG'.out.2.1 (by simp)) (HG'.out.2.2.trans hE4)))
          clear hE4
          go_wp2_with fail
          refine (rc_own (w.heap.size + 1) (recG n L) _ _ _ HG.out.1).mono ?_
          rintro e W6 ⟨rfl, hE6⟩
          rw [show (mixN sum0 (fun i => recG n L (i + 1)) 23) = own0 (recG n L) from rfl]
          have h61 := hE6.at HG.out.1 (by simp)
          have HE6 := Lib.hid (And.intro h61 (And.intro (hE6.at HG.out.2.1 (by simp)) (HG.out.2.2.trans hE6)))
          have k6 := cell_of h61 (arrF_get 24 _ 0 (by omega))
          have f6 := free_of h61 0
          clear h61 hE6
          have e1 : Hid ((W6.setCell ⟨w.heap.size + 1, 0, none⟩ (.int .u64 (own0 (recG n L)))).heap[w.heap.size + 1]? = some (.cells (arrF 24 (packW n L)) 71 (0, 0)) ∧ (W6.setCell ⟨w.heap.size + 1, 0, none⟩ (.int .u64 (own0 (recG n L)))).heap[w.heap.size]? = some (.cells (arrF 24 fun _ => 0) 49 (0, 0)) ∧ Ext [] w (W6.setCell ⟨w.heap.size + 1, 0, none⟩ (.int .u64 (own0 (recG n L))))) := by
            refine ⟨?_, block_sc (by show w.heap.size ≠ w.heap.size + 1; omega) HE6.out.2.1, HE6.out.2.2.setCell (.inr (by show w.heap.size ≤ w.heap.size + 1; omega)) _⟩
            have h := HE6.out.1
            simp only [World.setCell, Array.getElem?_modify, if_true, h]
            simp only [Option.map_some, Option.isSome_none, Bool.false_eq_true, if_false, arrF_set]
            rfl
          have p1 := e1.out.1
          have p0 := e1.out.2.1
          go_wp2_with (first | ((with_reducible refine load62 p1 ?_ ?_); exact rfl) | ((with_reducible refine store25 (G := packW n L) p0 ?_ ?_ ?_); exact rfl; exact rfl; intro W7 hE7 hs7 hb7))
          refine bodyPost_ret (results_cell_tmp rfl _ _ w.heap.size _ _ _ _ rfl hb7 Try.underlying49 rfl (by rw [arrF_size]; exact sz25)) rfl ?_
          show _ ∧ _
          rw [if_pos HZ.out.1, HZ.out.1]
          exact ⟨rfl, e1.out.2.2.trans' hE7 (fun j hj => .inr (by simp at hj; omega))⟩
  · have hb : (checkE L n == 0) = false := by simpa using hz
    have HZ := Lib.hid hz
    have h1 := HE.out.2.2.1
    have h0 := HE.out.2.1
    clear hz
    go_wp2_with (first | ((with_reducible refine load62 h1 ?_ ?_); exact rfl) | ((with_reducible refine store25 (G := fun _ => 0) h0 ?_ ?_ ?_); exact rfl; exact rfl; intro W2 hE2 hs2 hb2))
    refine bodyPost_ret (results_cell_tmp rfl _ _ w.heap.size _ _ _ _ rfl hb2 Try.underlying49 rfl (by rw [arrF_size]; exact sz25)) rfl ?_
    show _ ∧ _
    rw [if_neg HZ.out]
    exact ⟨rfl, HE.out.1.trans' hE2 (fun j hj => .inr (by simp at hj; omega))⟩
end Go.Proofs.Ytjdojckemphadaa
