/- Package alloc: Take. -/
import Derived.Test.YtgpoplnfhlfogaaAlG
import Derived.Test.YtgpoplnfhlfogaaRes
import Derived.Test.YtgpoplnfhlfogaaAlD
import Derived.Deep.RegionWith
namespace Go.Proofs.Ytgpoplnfhlfogaa
open Go Go.RowKit Go.Shelf

theorem infoIntA : (Try.prog.info? 3).map (fun i => (i.zero, i.size, i.bytes)) = some (some (.int .i64 0), 1, 8) := by kernel_rfl

def ints (ks : List Int) : List Value := ks.map (Value.int .i64)
theorem ints_len (ks : List Int) : (ints ks).length = ks.length := by simp [ints]
theorem ints_snoc (ks : List Int) (k : Int) : ints (ks ++ [k]) = ints ks ++ [.int .i64 k] := by simp [ints]
/-- a slice of one's own that holds these numbers -/
abbrev OwnI (w : World) (B : Nat) (v : Value) (ks : List Int) : Prop := w.ownsRow B 3 1 v ks.length (ints ks)
theorem ints_of_owns {w : World} {B : Nat} {v : Value} {ks : List Int} (h : OwnI w B v ks) : ∃ ao cap, v = .slice ao ks.length cap ∧ IntsB w ao ks.length (fun i => ks.getD i 0) ∧ ∀ p, ao = some p → B ≤ p.block := by
  rcases h.2 with ⟨rfl, h0⟩ | ⟨g, cap, cur, rfl, hb, hg, hnc, hcm, hcs, htk⟩
  · exact ⟨none, 0, by rw [h0], .inl h0, fun p hp => by cases hp⟩
  · refine ⟨some ⟨g, 0, none⟩, cap, rfl, .inr ⟨g, 0, rfl, fun i hi => ?_⟩, fun p hp => by cases hp; exact hb⟩
    have := h.cells (g := g) rfl i (.int .i64 (ks.getD i 0)) (by simp [ints, hi])
    rwa [add_at rfl] at this
theorem lst_getD (ks : List Int) : lst (fun i => ks.getD i 0) ks.length = ks := by
  unfold lst
  apply List.ext_getElem
  · simp
  · intro i h1 h2
    simp at h1
    simp [h1]

set_option maxRecDepth 100000 in
set_option maxHeartbeats 1000000 in
theorem al_take2 (ob B : Nat) (v : Value) (ks : List Int) (k : Int) (w : World) (hb : w.heap[ob]? = some (.cells #[v] 43 (0, 0))) (ho : OwnI w B v ks) (hl : ks.length < 1000000) (hB : B ≤ w.heap.size) (hob : ob < B) :
    Calls Try.prog 73 #[.int .i64 k, .pointer (some ⟨ob, 0, none⟩)] w fun e w' => e = .returned (.tuple #[]) ∧ ∃ v', w'.heap[ob]? = some (.cells #[v'] 43 (0, 0)) ∧ OwnI w' B v' (ks ++ [k]) ∧ Ext (ob :: v.ownBlock.toList) w w' ∧
      (∀ g, v'.ownBlock = some g → v.ownBlock = some g ∨ w.heap.size ≤ g) := by
  obtain ⟨i0, hi, hz0, hz1, hz2⟩ := info_parts infoIntA
  have k1 := cell_of (j := 0) (v := v) hb rfl
  have f1 := free_of hb 0
  have HB := Lib.hid hb
  have hoa := ho.alloc (.cells #[.int .i64 k] 3)
  have HO := Lib.hid ho
  have hnw : ∀ (j : Nat) (u : Value), [Value.int .i64 k][j]? = some u → (w.alloc (.cells #[.int .i64 k] 3)).cell? ((⟨w.heap.size, 0, none⟩ : Addr).add j) = some u := fun j u hj => by
    exact holds_of_block (World.alloc_heap_new w (.cells #[.int .i64 k] 3)) [.int .i64 k] (fun j v h => by simpa using h) j u hj
  have HNW := Lib.hid hnw
  clear hb ho hnw
  go_enter Try.func73, Try.ntmps73
  go_wp2_with (at_builtin; refine wpList_append_loc rfl _ _ 43 rfl B 3 i0 (.int .i64 0) 1 8 Try.underlying43 hi hz0 hz1 hz2 rfl (by decide) _ _ _ rfl hoa ⟨w.heap.size, 0, none⟩ 1 1 [.int .i64 k] rfl rfl HNW.out (by simp [Value.oneCell']) (by unfold maxLen; omega) (by omega) (by simp; omega) ?_)
  intro v' w1 ho1 hE1 hloc _
  obtain ⟨ao', cap', rfl⟩ := slice_of_owns ho1
  have hvo : ∀ g, v.ownBlock = some g → B ≤ g := fun g hg => (HO.out.lt g hg).1
  have hobm : ob ∉ v.ownBlock.toList := fun h => by
    simp at h
    have := hvo _ h
    omega
  have b1 := hE1.at (block_al HB.out) hobm
  have f1' := free_of b1 0
  have k1' := cell_of (j := 0) (v := v) b1 rfl
  have H1 := Lib.hid (And.intro ho1 (And.intro hE1 (And.intro hloc b1)))
  clear k1 f1 ho1 hE1 hloc b1 hoa
  go_wp2
  go_end0
  refine ⟨rfl, _, cell1_set H1.out.2.2.2 _, ?_, ?_, fun g hg => ?_⟩
  · show World.ownsRow _ _ _ _ _ (ks ++ [k]).length (ints (ks ++ [k]))
    rw [show (ks ++ [k]).length = ks.length + 1 by simp, ints_snoc]
    refine owns_ext H1.out.1 ((Ext.refl [ob] _).setCell (.inl (by simp)) _) (fun g hg => ?_)
    have := (H1.out.1.lt g hg).1
    simp
    omega
  · have e1 : Ext (ob :: v.ownBlock.toList) w w1 := ((Ext.refl _ w).alloc _).trans (H1.out.2.1.sub (fun j hj => List.mem_cons_of_mem _ hj))
    exact e1.setCell (.inl (by simp)) _
  · have := H1.out.2.2.1 g hg
    rcases this with h | h
    · exact .inl h
    · exact .inr (by omega)
/-- what Take's loop keeps: out's cell and row; what it reads -/
def TKB (B0 c mb : Nat) (lo : Int) (n : Nat) (S : Lns) (sf : Nat) (W : World) : Prop :=
  W.cell? ⟨B0 + 2, 0, none⟩ = some (.int .i64 lo) ∧ W.cell? ⟨B0 + 2, 1, none⟩ = some (.int .i64 (lo + (n : Int) - 1)) ∧ W.cell? ⟨B0 + 3, 0, none⟩ = some (.func (.func sf) #[] #[.pointer (some ⟨B0, 0, none⟩)]) ∧
    W.cell? ⟨B0, 0, none⟩ = some (.pointer (some ⟨c, 0, none⟩)) ∧ Pool W c mb lo (lo + (n : Int) - 1) S
def TJ (B0 c mb : Nat) (lo : Int) (n : Nat) (S : Lns) (sf : Nat) (m : List Nat) (ks : List Int) (W : World) : Prop :=
  TKB B0 c mb lo n S sf W ∧ (∃ v, m = (B0 + 1) :: v.ownBlock.toList ∧ W.heap[B0 + 1]? = some (.cells #[v] 43 (0, 0)) ∧ OwnI W (B0 + 4) v ks)
theorem Lines.steady {N mb : Nat} {S : Lns} : Steady N (fun W => Lines W mb S) := .ex fun _ => IMap.steady.and (Steady.const _ _)
theorem Pool.steady {N c mb : Nat} {lo hi : Int} {S : Lns} : Steady N (fun W => Pool W c mb lo hi S) := (Steady.block (.inr rfl)).and Lines.steady
theorem TKB.steady {N B0 c mb : Nat} {lo : Int} {n : Nat} {S : Lns} {sf : Nat} : Steady N (TKB B0 c mb lo n S sf) :=
  Steady.cell.and (Steady.cell.and (Steady.cell.and (Steady.cell.and Pool.steady)))
theorem TJ.steady {N B0 c mb : Nat} {lo : Int} {n : Nat} {S : Lns} {sf : Nat} {m : List Nat} {ks : List Int} : Steady N (TJ B0 c mb lo n S sf m ks) :=
  TKB.steady.and (.ex fun _ => (Steady.const _ _).and ((Steady.block (.inr rfl)).and steady_owns))
theorem TKB.ext {B0 c mb : Nat} {lo : Int} {n : Nat} {S : Lns} {sf : Nat} {k : List Nat} {W W' : World} (h : TKB B0 c mb lo n S sf W) (hE : Ext k W W') (hc : c < B0) (hm : mb < B0) (hk : ∀ j ∈ k, j = B0 + 1 ∨ B0 + 4 ≤ j) : TKB B0 c mb lo n S sf W' := by
  have f : ∀ j, j = B0 + 2 ∨ j = B0 + 3 ∨ j ≤ B0 → j ∉ k := fun j hj hm => by have := hk j hm; omega
  exact ⟨hE.cell h.1 (f _ (by simp)), hE.cell h.2.1 (f _ (by simp)), hE.cell h.2.2.1 (f _ (by simp)), hE.cell h.2.2.2.1 (f _ (by simp)), h.2.2.2.2.ext hE (f _ (by omega)) (f _ (by omega))⟩
theorem TJ.far {B0 c mb : Nat} {lo : Int} {n : Nat} {S : Lns} {sf : Nat} {m : List Nat} {ks : List Int} {W W' : World} {nb : Nat} (h : TJ B0 c mb lo n S sf m ks W) (hE : Ext [nb] W W') (hc : c < B0) (hm : mb < B0) (hn : B0 + 4 ≤ nb) (hnm : nb ∉ m) : TJ B0 c mb lo n S sf m ks W' := by
  obtain ⟨h1, v, rfl, h2, h3⟩ := h
  refine ⟨h1.ext hE hc hm (fun j hj => by simp at hj; omega), v, rfl, hE.at h2 (by simp; omega), owns_ext h3 hE (fun g hg hgm => ?_)⟩
  simp at hgm
  subst hgm
  exact hnm (by simp [hg])
theorem TJ.keep {B0 c mb : Nat} {lo : Int} {n : Nat} {S : Lns} {sf : Nat} {m : List Nat} {ks : List Int} {W : World} {k : Int} (h : TJ B0 c mb lo n S sf m ks W) (hc : c < B0) (hm : mb < B0) (hl : ks.length < 1000000) :
    Calls Try.prog 73 (#[.int .i64 k] ++ #[.pointer (some ⟨B0 + 1, 0, none⟩)]) W fun e w' => (∃ v, e = .returned v) ∧ Ext m W w' ∧ ∃ m', Sub W m m' ∧ TJ B0 c mb lo n S sf m' (ks ++ [k]) w' := by
  obtain ⟨h1, v, rfl, h2, h3⟩ := h
  have hsz := World.block_lt_of_cell? _ _ h1.2.2.1
  simp at hsz
  refine (al_take2 (B0 + 1) (B0 + 4) v ks k W h2 h3 hl (by omega) (by omega)).mono ?_
  rintro e w' ⟨rfl, v', hb, ho, hE, hloc⟩
  refine ⟨⟨_, rfl⟩, hE, (B0 + 1) :: v'.ownBlock.toList, fun j hj => ?_, h1.ext hE hc hm (fun j hj => ?_), v', rfl, hb, ho⟩
  · rcases List.mem_cons.1 hj with h | h
    · exact .inl (by rw [h]; exact List.mem_cons_self ..)
    · have hv : v'.ownBlock = some j := by simpa using h
      exact (hloc j hv).imp (fun h => List.mem_cons_of_mem _ (by simp [h])) id
  · rcases List.mem_cons.1 hj with h | h
    · exact .inl h
    · have hv : v.ownBlock = some j := by simpa using h
      exact .inr (h3.lt j hv).1

/-- what Take answers, and how the pool stands then -/
def TakePost (w : World) (c mb : Nat) (lo : Int) (n : Nat) (r : Int × List Int × Lns) (e : Ending) (w' : World) : Prop :=
  ∃ ao cap, e = .returned (.tuple #[.slice ao r.2.1.length cap, .int .i64 r.1]) ∧ Ext [c] w w' ∧ IntsB w' ao r.2.1.length (fun i => r.2.1.getD i 0) ∧ (∀ p, ao = some p → w.heap.size ≤ p.block) ∧
    ∃ mb', Pool w' c mb' lo (lo + (n : Int) - 1) r.2.2 ∧ (mb' = mb ∨ w.heap.size ≤ mb')

theorem cell_new2 (w : World) (o : Obj) (v : Value) (t : TypeId) : ((w.alloc o).alloc (.cells #[v] t)).cell? ⟨w.heap.size + 1, 0, none⟩ = some v := by
  have := World.alloc_heap_new (w.alloc o) (.cells #[v] t)
  rw [World.size_alloc] at this
  exact cell_of this rfl
set_option maxRecDepth 100000 in
set_option maxHeartbeats 4000000 in
theorem al_take_neg (c mb : Nat) (lo : Int) (n : Nat) (S : Lns) (many : Int) (w : World) (h : Pool w c mb lo (lo + (n : Int) - 1) S) (hneg : many < 0) :
    Calls Try.prog 24 #[.pointer (some ⟨c, 0, none⟩), .int .i64 many] w (TakePost w c mb lo n (2, [], S)) := by
  have HN := Lib.hid (fun W (hE : Ext [] w W) => al_none c mb lo _ S W (h.ext hE (by simp) (by simp)))
  have H := Lib.hid h
  clear h
  go_enter Try.func24, Try.ntmps24
  go_wp2_with fail
  refine wp_scope_ahead 0 rfl ?_
  go_wp2_with fail
  refine (HN.out _ (((Ext.refl _ _).alloc _).alloc _)).mono ?_
  rintro e w' ⟨rfl, rfl⟩
  go_wp2
  go_step3
  simp only [Exit.then]
  refine ⟨rfl, ?_⟩
  go_wp2
  rw [Exit.noGoto_ret]
  refine bodyPost_ret (v := .tuple #[.slice none 0 0, .int .i64 2]) (results_ct Try.results24 _ _ ⟨w.heap.size + 1, 0, none⟩ _ _ (by kernel_rfl) rfl ?_ rfl) rfl ?_
  · exact cell_new2 _ _ _ _
  · exact ⟨none, 0, rfl, ((Ext.refl _ w).alloc _).alloc _, .inl rfl, (fun p hp => by cases hp), mb, H.out.ext (((Ext.refl [] w).alloc _).alloc _) (by simp) (by simp), .inl rfl⟩

set_option maxRecDepth 100000 in
set_option maxHeartbeats 4000000 in
theorem al_take_pos (c mb : Nat) (lo : Int) (n : Nat) (S : Lns) (q : Nat) (w : World) (hlo : -1000000000 ≤ lo) (hhi : lo + n ≤ 1000000000) (hn : n ≤ 1000000) (h : Pool w c mb lo (lo + (n : Int) - 1) S) (hB : CntB S) (hq : q ≤ 9223372036854775807) :
    Calls Try.prog 24 #[.pointer (some ⟨c, 0, none⟩), .int .i64 q] w (TakePost w c mb lo n (takeN S lo n q)) := by
  have HN := Lib.hid (fun W (hE : Ext [] w W) => al_none c mb lo _ S W (h.ext hE (by simp) (by simp)))
  have H := Lib.hid h
  have HB := Lib.hid hB
  have hcw : c < w.heap.size := lt_of_block h.1
  have hmw : mb < w.heap.size := h.2.lt
  have hcf1 := enters_of Try.func72 (by kernel_rfl) rfl
  have hcf2 := enters_of Try.func73 (by kernel_rfl) rfl
  clear h hB
  have hp2 := H.out.ext (((Ext.refl [] w).alloc (.cells #[.pointer (some ⟨c, 0, none⟩)] 39)).alloc (.cells #[.slice none 0 0] 43)) (by simp) (by simp)
  have hE2 := (((Ext.refl [] w).alloc (.cells #[.pointer (some ⟨c, 0, none⟩)] 39)).alloc (.cells #[.slice none 0 0] 43))
  have hbp : ((w.alloc (.cells #[.pointer (some ⟨c, 0, none⟩)] 39)).alloc (.cells #[.slice none 0 0] 43)).heap[w.heap.size]? = some (.cells #[.pointer (some ⟨c, 0, none⟩)] 39 (0, 0)) := block_al (World.alloc_heap_new _ _)
  have hbo : ((w.alloc (.cells #[.pointer (some ⟨c, 0, none⟩)] 39)).alloc (.cells #[.slice none 0 0] 43)).heap[w.heap.size + 1]? = some (.cells #[.slice none 0 0] 43 (0, 0)) := by
    have := World.alloc_heap_new (w.alloc (.cells #[.pointer (some ⟨c, 0, none⟩)] 39)) (.cells #[.slice none 0 0] 43)
    rwa [World.size_alloc] at this
  have hs2 : ((w.alloc (.cells #[.pointer (some ⟨c, 0, none⟩)] 39)).alloc (.cells #[.slice none 0 0] 43)).heap.size = w.heap.size + 2 := by simp
  generalize hw2 : ((w.alloc (.cells #[.pointer (some ⟨c, 0, none⟩)] 39)).alloc (.cells #[.slice none 0 0] 43)) = w2 at *
  have k1 := cell_of (j := 0) (v := .pointer (some ⟨c, 0, none⟩)) hbp rfl
  have k2 := cell_of (j := 0) (v := .int .i64 lo) hp2.1 rfl
  have k3 := cell_of (j := 1) (v := .int .i64 (lo + (n : Int) - 1)) hp2.1 rfl
  have H2 := Lib.hid (And.intro hp2 (And.intro hE2 (And.intro hbp (And.intro hbo hs2))))
  clear hp2 hE2 hbp hbo hs2
  go_enter Try.func24, Try.ntmps24
  go_wp2_with fail
  refine wp_scope_ahead 0 rfl ?_
  go_wp2_with fail
  refine (HN.out _ H2.out.2.1).mono ?_
  rintro e w' ⟨rfl, rfl⟩
  go_wp2_with fail
  refine (al_those lo _ 72 #[.pointer (some ⟨w.heap.size, 0, none⟩)] _).mono ?_
  rintro e w' ⟨rfl, rfl⟩
  go_wp2_with fail
  rw [show w2.heap.size = w.heap.size + 2 from H2.out.2.2.2.2]
  have hE3 := (H2.out.2.1.alloc (.cells #[.int .i64 lo, .int .i64 (lo + (n : Int) - 1)] 62)).alloc (.cells #[.func (.func 72) #[] #[.pointer (some ⟨w.heap.size, 0, none⟩)]] 69)
  have hE23 : Ext [] w2 _ := ((Ext.refl [] w2).alloc (.cells #[.int .i64 lo, .int .i64 (lo + (n : Int) - 1)] 62)).alloc (.cells #[.func (.func 72) #[] #[.pointer (some ⟨w.heap.size, 0, none⟩)]] 69)
  have hb3 : ((w2.alloc (.cells #[.int .i64 lo, .int .i64 (lo + (n : Int) - 1)] 62)).alloc (.cells #[.func (.func 72) #[] #[.pointer (some ⟨w.heap.size, 0, none⟩)]] 69)).heap[w.heap.size + 2]? = some (.cells #[.int .i64 lo, .int .i64 (lo + (n : Int) - 1)] 62 (0, 0)) := by
    have := World.alloc_heap_new w2 (.cells #[.int .i64 lo, .int .i64 (lo + (n : Int) - 1)] 62)
    rw [show w2.heap.size = w.heap.size + 2 from H2.out.2.2.2.2] at this
    exact block_al this
  have hf3 : ((w2.alloc (.cells #[.int .i64 lo, .int .i64 (lo + (n : Int) - 1)] 62)).alloc (.cells #[.func (.func 72) #[] #[.pointer (some ⟨w.heap.size, 0, none⟩)]] 69)).heap[w.heap.size + 3]? = some (.cells #[.func (.func 72) #[] #[.pointer (some ⟨w.heap.size, 0, none⟩)]] 69 (0, 0)) := by
    have := World.alloc_heap_new (w2.alloc (.cells #[.int .i64 lo, .int .i64 (lo + (n : Int) - 1)] 62)) (.cells #[.func (.func 72) #[] #[.pointer (some ⟨w.heap.size, 0, none⟩)]] 69)
    rwa [show (w2.alloc (.cells #[.int .i64 lo, .int .i64 (lo + (n : Int) - 1)] 62)).heap.size = w.heap.size + 3 from by simp [H2.out.2.2.2.2]] at this
  have hs3 : ((w2.alloc (.cells #[.int .i64 lo, .int .i64 (lo + (n : Int) - 1)] 62)).alloc (.cells #[.func (.func 72) #[] #[.pointer (some ⟨w.heap.size, 0, none⟩)]] 69)).heap.size = w.heap.size + 4 := by simp [H2.out.2.2.2.2]
  generalize hw3 : ((w2.alloc (.cells #[.int .i64 lo, .int .i64 (lo + (n : Int) - 1)] 62)).alloc (.cells #[.func (.func 72) #[] #[.pointer (some ⟨w.heap.size, 0, none⟩)]] 69)) = w3 at *
  have hkb : TKB w.heap.size c mb lo n S 72 w3 := ⟨cell_of (j := 0) hb3 rfl, cell_of (j := 1) hb3 rfl, cell_of (j := 0) hf3 rfl, cell_of (j := 0) (hE23.at H2.out.2.2.1 (by simp)) rfl, H2.out.1.ext hE23 (by simp) (by simp)⟩
  have hJ0 : TJ w.heap.size c mb lo n S 72 [w.heap.size + 1] [] w3 := ⟨hkb, .slice none 0 0, rfl, hE23.at H2.out.2.2.2.1 (by simp), World.ownsRow_nil _ _ _ _⟩
  refine (al_firstN 106 73 #[.pointer (some ⟨w.heap.size + 2, 0, none⟩), .pointer (some ⟨w.heap.size + 3, 0, none⟩)] #[.pointer (some ⟨w.heap.size + 1, 0, none⟩)] (fun k => !(S k).1) lo n q
    (TKB w.heap.size c mb lo n S 72) [w.heap.size + 1] (TJ w.heap.size c mb lo n S 72) w3 hn
    (fun args w => enters_of Try.func106 (by kernel_rfl) rfl args w) hcf2
    (those_seq (w.heap.size + 2) (w.heap.size + 3) 72 #[.pointer (some ⟨w.heap.size, 0, none⟩)] lo n (fun k => !(S k).1) (fun W => W.cell? ⟨w.heap.size, 0, none⟩ = some (.pointer (some ⟨c, 0, none⟩)) ∧ Pool W c mb lo (lo + (n : Int) - 1) S) hlo hhi hcf1
      (fun W hW i _ => al_take1 w.heap.size c mb lo _ S _ W hW.1 hW.2))
    hq (fun m ks => TJ.steady) (fun m ks W h => h.1) (by simp; omega) hJ0 (fun m ks W W' nb h hE hnb hnm => h.far hE hcw hmw (by omega) hnm) (fun m ks k W h hl => h.keep hcw hmw hl)).mono ?_
  rintro e w4 ⟨rfl, hE4, m4, hs4, hJ4⟩
  rw [sel_free] at hJ4 ⊢
  have HE3 := Lib.hid hE3
  have HE4 := Lib.hid (And.intro hE4 (And.intro hs4 (And.intro hJ4 hs3)))
  obtain ⟨hkb4, v4, _, hbo4, hown4⟩ := hJ4
  obtain ⟨ao, cap, rfl, hia, hbig⟩ := ints_of_owns hown4
  have HW := Lib.hid (And.intro hkb4 (And.intro hbo4 (And.intro hown4 (And.intro hia hbig))))
  have q1 := cell_of (j := 0) (v := .slice ao ((thoseL S false lo n).take q).length cap) hbo4 rfl
  have q2 := hkb4.2.2.2.1
  have fo := free_of hbo4 0
  clear hE3 hE23 hb3 hf3 hs3 hw3 hw2 hkb hJ0 hE4 hs4 hkb4 hbo4 hown4 hia hbig k1 k2 k3
  by_cases hfull : q ≤ (thoseL S false lo n).length
  · have hd : decide (q ≤ (thoseL S false lo n).length) = true := by simpa using hfull
    have HV : Hid (takeN S lo n q = (0, (thoseL S false lo n).take q, allL S true ((thoseL S false lo n).take q))) := by
      unfold Hid takeN
      rw [if_neg (by omega), if_neg (by omega)]
      simp
    have hlen : ((thoseL S false lo n).take q).length ≤ 1000000 := by
      have h1 := those_len S lo n
      have h2 : ((thoseL S false lo n).take q).length ≤ (thoseL S false lo n).length := by rw [List.length_take]; omega
      omega
    obtain ⟨ks, hks⟩ : ∃ ks, ks = (thoseL S false lo n).take q := ⟨_, rfl⟩
    have HCF : Hid (turnN S lo n true 231 ks = (0, allL S true ks)) := by unfold Hid; rw [hks]; exact claim_free S lo n q
    rw [← hks] at HW q1 hlen HV
    have HCL : Hid (∀ W, Ext [] w4 W → Calls Try.prog 27 #[.pointer (some ⟨c, 0, none⟩), .slice ao ks.length cap] W fun e w' => e = .returned (.int .i64 0) ∧ Ext [c] w4 w' ∧
        ∃ mb', Pool w' c mb' lo (lo + (n : Int) - 1) (allL S true ks) ∧ (mb' = mb ∨ w4.heap.size ≤ mb')) := by
      intro W hE
      refine (al_Claim c mb lo n S ao ks.length cap (fun i => ks.getD i 0) W (HW.out.1.2.2.2.2.ext hE (by simp) (by simp)) (HW.out.2.2.2.1.ext hE) (by omega) HB.out).mono ?_
      rintro e w' ⟨rfl, hE5, mb', hp5, hmb5⟩
      rw [lst_getD, HCF.out] at hp5 ⊢
      exact ⟨rfl, hE.wide.trans hE5, mb', hp5, hmb5.imp id (fun h => by have := hE.size; omega)⟩
    have hcne : w.heap.size + 1 ∉ [c] := by simp; omega
    have hcne0 : w.heap.size ∉ [c] := by simp; omega
    have hlt4 : w.heap.size + 1 < w4.heap.size := lt_of_block HW.out.2.1
    clear hfull hks HCF
    go_wp2
    go_region_with (go_at_call 27; refine (HCL.out _ ?_).mono ?_; exact Ext.drew (Ext.refl _ _); rintro e w5 ⟨rfl, hE5, hP5⟩; have HP5 := Lib.hid hP5; clear hP5; have q15 := hE5.cell q1 hcne; have q25 := hE5.cell q2 hcne0; have fo5 := hE5.frozen fo hlt4 hcne; have HE5 := Lib.hid hE5; clear hE5)
    all_goals go_wp2
    all_goals
      rw [jump_ret, HV.out]
      obtain ⟨mb', hp5, hmb5⟩ := HP5.out
      have hb5 := HE5.out.at HW.out.2.1 hcne
      have hcell : (w5.setCell ⟨w.heap.size + 1, 0, none⟩ (.slice ao ks.length cap)).cell? ⟨w.heap.size + 1, 0, none⟩ = some (.slice ao ks.length cap) := cell_of (j := 0) (cell1_set hb5 _) rfl
      have hE45 : Ext [c] w w4 := (HE3.out.trans' HE4.out.1 (fun j hj => .inr (by simp at hj; omega))).wide
      have hEf : Ext [c] w (w5.setCell ⟨w.heap.size + 1, 0, none⟩ (.slice ao ks.length cap)) := (hE45.trans HE5.out).setCell (.inr (by simp)) _
      refine bodyPost_ret (v := .tuple #[.slice ao ks.length cap, .int .i64 0]) (results_ct Try.results24 _ _ ⟨w.heap.size + 1, 0, none⟩ _ _ (by kernel_rfl) rfl hcell rfl) rfl ?_
      exact ⟨ao, cap, rfl, hEf, (HW.out.2.2.2.1.extm HE5.out (fun p hp => by have := HW.out.2.2.2.2 p hp; simp; omega)).extm ((Ext.refl [w.heap.size + 1] _).setCell (.inl (by simp)) _) (fun p hp => by have := HW.out.2.2.2.2 p hp; simp; omega),
        (fun p hp => by have := HW.out.2.2.2.2 p hp; omega), mb', hp5.ext ((Ext.refl [w.heap.size + 1] _).setCell (.inl (by simp)) _) (by simp; omega) (by simp; omega), hmb5.imp id (fun h => by omega)⟩
  · have hd : decide (q ≤ (thoseL S false lo n).length) = false := by simpa using hfull
    have HV : Hid (takeN S lo n q = (230, [], S)) := by
      unfold Hid takeN
      rw [if_neg (by omega), if_pos (by omega)]
    clear hfull
    go_wp2
    go_step3
    simp only [Exit.then]
    refine ⟨rfl, ?_⟩
    go_wp2
    rw [Exit.noGoto_ret]
    rw [HV.out]
    refine bodyPost_ret (v := .tuple #[.slice none 0 0, .int .i64 230]) (results_ct Try.results24 _ _ ⟨w.heap.size + 1, 0, none⟩ _ _ (by kernel_rfl) rfl (cell_of (j := 0) (cell1_set HW.out.2.1 _) rfl) rfl) rfl ?_
    have hEf : Ext [] w (w4.setCell ⟨w.heap.size + 1, 0, none⟩ (.slice none 0 0)) := (HE3.out.trans' HE4.out.1 (fun j hj => .inr (by simp at hj; omega))).setCell (.inr (by simp)) _
    exact ⟨none, 0, rfl, hEf.wide, .inl rfl, (fun p hp => by cases hp), mb, H.out.ext hEf (by simp) (by simp), .inl rfl⟩
end Go.Proofs.Ytgpoplnfhlfogaa
