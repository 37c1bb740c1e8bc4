/- The law's act: a call by both. First: Take, Give, Claim. -/
import Derived.Test.YtgpoplnfhlfogaaAlZ
import Derived.Test.YtgpoplnfhlfogaaAlP
namespace Go.Proofs.Ytgpoplnfhlfogaa
open Go Go.RowKit Go.Shelf
attribute [local go_sem] Oper.semAt_some

/-- the lines behind a call -/
def actN (S : Lns) (lo : Int) (n : Nat) (what many : Int) (ks : List Int) : Lns :=
  if what = 0 then (takeN S lo n many).2.2 else if what = 1 then (turnN S lo n false 5 ks).2 else if what = 2 then (turnN S lo n true 231 ks).2 else S
/-- lines that are taken are the pool's -/
def InL (S : Lns) (lo : Int) (n : Nat) : Prop := ∀ k, (S k).1 = true → lo ≤ k ∧ k < lo + n
theorem InL.all {S : Lns} {lo : Int} {n : Nat} (h : InL S lo n) {t : Bool} {ks : List Int} (hk : ∀ k ∈ ks, lo ≤ k ∧ k < lo + n) : InL (allL S t ks) lo n := by
  intro k hs
  unfold allL at hs
  by_cases hm : k ∈ ks
  · exact hk k hm
  · rw [if_neg hm] at hs
    exact h k hs
theorem InL.take {S : Lns} {lo : Int} {n : Nat} (h : InL S lo n) {many : Int} : InL (takeN S lo n many).2.2 lo n := by
  unfold takeN
  split
  · exact h
  · split
    · exact h
    · refine h.all (fun k hk => ?_)
      have := (mem_thoseL S false lo n k).1 (List.mem_of_mem_take hk)
      omega
theorem InL.turn {S : Lns} {lo : Int} {n : Nat} (h : InL S lo n) {t : Bool} {e : Int} {ks : List Int} : InL (turnN S lo n t e ks).2 lo n := by
  unfold turnN
  split
  · rename_i hk
    cases ht : turnS t ks S with
    | none => exact h
    | some S' =>
      obtain ⟨_, _, rfl⟩ := (turnS_iff t ks S S').1 ht
      exact h.all hk
  · exact h
theorem InL.act {S : Lns} {lo : Int} {n : Nat} (h : InL S lo n) (what many : Int) (ks : List Int) : InL (actN S lo n what many ks) lo n := by
  unfold actN
  split
  · exact h.take
  · split
    · exact h.turn
    · split
      · exact h.turn
      · exact h
theorem actN_cnt {S : Lns} {lo : Int} {n : Nat} {b : Int} (h : ∀ q, 0 ≤ (S q).2 ∧ (S q).2 ≤ b) (what many : Int) (ks : List Int) : ∀ q, 0 ≤ ((actN S lo n what many ks) q).2 ∧ ((actN S lo n what many ks) q).2 ≤ b + 1 := by
  unfold actN
  split
  · exact takeN_cnt h
  · split
    · exact turnN_cnt h
    · split
      · exact turnN_cnt h
      · exact cntB_le h (by omega)

/-- lines don't lie where the machine's pool lies -/
theorem RPl.apartP {w w' : World} {ao : Option Addr} {lo : Int} {n : Nat} {S : Lns} {g : Nat} {x y : Int} {m : Option Nat} {T : TypeId} {f : Nat × Nat} (h : RPl w ao lo n S) (hg : w.heap[g]? = some (.cells #[.int .i64 x, .int .i64 y, .map m] T f)) (hE : Ext [g] w w') : RPl w' ao lo n S := by
  by_cases hn : n = 0
  · exact .inl hn
  · refine h.ext hE (fun p hp => ?_)
    rcases h with h | ⟨b', off, h1, h2⟩
    · exact absurd h hn
    · rw [h1] at hp
      cases hp
      simp
      rintro rfl
      have h3 := (h2 0 (by omega)).1
      simp only [World.cell?, hg, Nat.zero_mul, Nat.add_zero] at h3
      match off, h3 with
      | 0, h3 => simp at h3
      | 1, h3 => simp at h3
      | 2, h3 => simp at h3
      | k + 3, h3 => simp at h3
/-- nor a map -/
theorem Lines.apart {w : World} {mb : Nat} {S : Lns} {g : Nat} {cs : Array Value} {T : TypeId} {f : Nat × Nat} (h : Lines w mb S) (hg : w.heap[g]? = some (.cells cs T f)) : mb ≠ g := by
  rintro rfl
  obtain ⟨l, hl, _⟩ := h
  obtain ⟨es, gn, hm, _⟩ := hl
  rw [hg] at hm
  cases hm

theorem results_tct {P : Program} {fn : Func} {p q r : Tmp} {ty : TypeId} (h : fn.results = #[.tmp p, .cell q ty, .tmp r]) (tmps : Array Value) (w : World) (g : Nat) (t : TypeId) (cs : Array Value) (fr : Nat × Nat) (d : TypeDesc) (u v : Value)
    (hp : tmps.getD p undef = u) (hq : tmps.getD q undef = .pointer (some ⟨g, 0, none⟩)) (hg : w.heap[g]? = some (.cells cs t fr)) (hr : tmps.getD r undef = v)
    (hu : P.underlying ty = some d) (hd : (match d with | .struct _ | .array _ _ => true | _ => false) = true) (hi : (P.info? ty).map (·.size) = some cs.size) :
    (results fn tmps).run P w = .ok (.tuple #[u, .agg cs, v]) w := by
  have hp' : tmps[p]?.getD undef = u := by simpa using hp
  have hq' : tmps[q]?.getD undef = .pointer (some ⟨g, 0, none⟩) := by simpa using hq
  have hr' : tmps[r]?.getD undef = v := by simpa using hr
  simp [results, h, hp', hq', hr', asAddr, run_loadVar_row w g t ty cs fr d hg hu hd hi]

theorem takeN_le (S : Lns) (lo : Int) (n : Nat) (many : Int) : (takeN S lo n many).2.1.length ≤ n := by
  unfold takeN
  split
  · exact Nat.zero_le _
  · split
    · exact Nat.zero_le _
    · exact Nat.le_trans (List.length_take_le' _ _) (thoseL_le S false lo n)

/-- what act tells -/
def ActPost (w : World) (c : Nat) (lo : Int) (n : Nat) (S' : Lns) (e : Ending) (w' : World) : Prop :=
  ∃ c' mb' ao' cap', e = .returned (.tuple #[.pointer (some ⟨c', 0, none⟩), .agg #[.int .i64 lo, .slice ao' n cap'], .bool true]) ∧ Ext [c] w w' ∧ Pool w' c' mb' lo (lo + (n : Int) - 1) S' ∧ RPl w' ao' lo n S' ∧ (c' = c ∨ w.heap.size ≤ c')
theorem act_end {w W : World} {c c' mb' b7 : Nat} {lo : Int} {n cap' : Nat} {S' : Lns} {ao' : Option Addr} (h7 : W.heap[b7]? = some (.cells #[.int .i64 0, .slice none 0 0] 56 (0, 0))) (hE : Ext [c] w W) (hb : w.heap.size ≤ b7)
    (hp : Pool W c' mb' lo (lo + (n : Int) - 1) S') (hR : RPl W ao' lo n S') (hc : c' = c ∨ w.heap.size ≤ c') (hne : c' ≠ b7) :
    ActPost w c lo n S' (.returned (.tuple #[.pointer (some ⟨c', 0, none⟩), .agg #[.int .i64 lo, .slice ao' n cap'], .bool true])) ((W.setCell ⟨b7, 0, none⟩ (.int .i64 lo)).setCell ⟨b7, 1, none⟩ (.slice ao' n cap')) := by
  have hE3 : Ext [b7] W ((W.setCell ⟨b7, 0, none⟩ (.int .i64 lo)).setCell ⟨b7, 1, none⟩ (.slice ao' n cap')) := (((Ext.refl [b7] W).setCell (.inl (by simp)) _).setCell (.inl (by simp)) _)
  exact ⟨c', mb', ao', cap', rfl, hE.trans' hE3 (fun j hj => .inr (by simp at hj; omega)), hp.ext hE3 (by simpa using hne) (by simpa using hp.2.apart h7), hR.apart h7 hE3, hc⟩

set_option maxRecDepth 100000 in
set_option maxHeartbeats 4000000 in
theorem act_take (c mb : Nat) (lo : Int) (n : Nat) (S : Lns) (ao : Option Addr) (cap : Nat) (many : Int) (bo : Option Addr) (bn bcap : Nat) (w : World) (h0 : -1000000000 ≤ lo) (h1 : lo + n ≤ 1000000000) (hn : n ≤ 1000000) (hp : Pool w c mb lo (lo + (n : Int) - 1) S) (hR : RPl w ao lo n S)
    (hB : ∀ q, 0 ≤ (S q).2 ∧ (S q).2 ≤ 1000000) (hm : I64 many) :
    Calls Try.prog 33 #[.pointer (some ⟨c, 0, none⟩), .agg #[.int .i64 lo, .slice ao n cap], .agg #[.int .i64 0, .int .i64 many, .slice bo bn bcap]] w (ActPost w c lo n (takeN S lo n many).2.2) := by
  obtain ⟨hb4, hb5, hb7, hs⟩ := al3_heap (w := w) #[.int .i64 lo, .slice ao n cap] #[.int .i64 0, .int .i64 many, .slice bo bn bcap] #[.int .i64 0, .slice none 0 0] 56 45 56
  have hE0 := (((Ext.refl [] w).alloc (.cells #[.int .i64 lo, .slice ao n cap] 56)).alloc (.cells #[.int .i64 0, .int .i64 many, .slice bo bn bcap] 45)).alloc (.cells #[.int .i64 0, .slice none 0 0] 56)
  generalize hw0 : ((w.alloc (.cells #[.int .i64 lo, .slice ao n cap] 56)).alloc (.cells #[.int .i64 0, .int .i64 many, .slice bo bn bcap] 45)).alloc (.cells #[.int .i64 0, .slice none 0 0] 56) = w0 at *
  have hcw : c < w.heap.size := lt_of_block hp.1
  have k1 := cell_of (j := 0) (v := .int .i64 0) hb5 rfl
  have k2 := cell_of (j := 1) (v := .int .i64 many) hb5 rfl
  have H0 := Lib.hid (And.intro hE0 (And.intro hb4 (And.intro hb5 (And.intro hb7 (And.intro (hp.ext hE0 (by simp) (by simp)) (And.intro (hR.ext0 hE0) (And.intro hcw (And.intro hB hm))))))))
  have HT := Lib.hid (al_takeAny c mb lo n S many w0 h0 h1 hn H0.out.2.2.2.2.1 (CntB.up hB (by omega)) hm)
  clear hb4 hb5 hb7 hs hE0 hp hR hcw hB hm
  go_enter Try.func33, Try.ntmps33
  go_wp2_with fail
  refine HT.out.mono ?_
  rintro e w1 ⟨ao1, cap1, rfl, hE1, hI1, _, mb1, hp1, _⟩
  have n4 : w.heap.size ∉ [c] := by have := H0.out.2.2.2.2.2.2.1; simp; omega
  have n5 : w.heap.size + 1 ∉ [c] := by have := H0.out.2.2.2.2.2.2.1; simp; omega
  have n7 : w.heap.size + 2 ∉ [c] := by have := H0.out.2.2.2.2.2.2.1; simp; omega
  have hb4 := hE1.at H0.out.2.1 n4
  have hb5 := hE1.at H0.out.2.2.1 n5
  have hb7 := hE1.at H0.out.2.2.2.1 n7
  have q1 := cell_of (j := 1) (v := .int .i64 many) hb5 rfl
  have q2 := cell_of (j := 0) (v := .int .i64 lo) hb4 rfl
  have q3 := cell_of (j := 1) (v := .slice ao n cap) hb4 rfl
  have HR := Lib.hid (rf_Take lo ao n cap S many w1 h0 h1 hn (H0.out.2.2.2.2.2.1.apartP H0.out.2.2.2.2.1.1 hE1) H0.out.2.2.2.2.2.2.2.1 H0.out.2.2.2.2.2.2.2.2)
  have H1 := Lib.hid (And.intro hE1 (And.intro hI1 (And.intro hp1 hb7)))
  clear hE1 hI1 hp1 hb4 hb5 hb7 k1 k2 hw0
  go_wp2_with fail
  refine HR.out.mono ?_
  rintro e w2 ⟨ao2, cap2, fo, fc, rfl, hE2, hR2, hI2⟩
  have hrl := takeN_le S lo n many
  generalize takeN S lo n many = r at *
  obtain ⟨W3, hW3⟩ : ∃ W3, w2.alloc (.cells #[.int .i64 lo, .slice ao2 n cap2] 56) = W3 := ⟨_, rfl⟩
  have hE3 : Ext [] w1 W3 := by rw [← hW3]; exact hE2.alloc _
  have hb11 : W3.heap[w2.heap.size]? = some (.cells #[.int .i64 lo, .slice ao2 n cap2] 56 (0, 0)) := by rw [← hW3]; exact World.alloc_heap_new _ _
  have hb7 := hE3.at H1.out.2.2.2 (by simp)
  have HIN : Hid (∀ W, Ext [] W3 W → Calls Try.prog 29 #[.slice ao1 r.2.1.length cap1, .slice fo r.2.1.length fc] W fun e w' => e = .returned (.bool true) ∧ Ext [] W w') := by
    intro W hE
    have h2 : IntsAt W fo r.2.1.length (fun i => r.2.1.getD i 0) := (show IntsAt W3 fo r.2.1.length (fun i => r.2.1.getD i 0) from by rw [← hW3]; exact hI2.ext ((Ext.refl [] _).alloc _)).ext hE
    have := rf_Ints ao1 fo r.2.1.length r.2.1.length cap1 fc _ _ W ((H1.out.2.1.ext hE3).ext hE) h2 (by omega) (by omega)
    rwa [eqI_true (fun i _ => rfl)] at this
  have HR2 := Lib.hid (show RPl W3 ao2 lo n r.2.2 from by rw [← hW3]; exact hR2.ext0 ((Ext.refl [] _).alloc _))
  have m7 := cell_of (j := 0) (v := .int .i64 0) hb7 rfl
  have m8 := cell_of (j := 1) (v := .slice none 0 0) hb7 rfl
  have f7 := free_of hb7 0
  have f8 := free_of hb7 1
  have z7 : w.heap.size + 2 < W3.heap.size := lt_of_block hb7
  have m1 := cell_of (j := 0) (v := .int .i64 lo) hb11 rfl
  have m2 := cell_of (j := 1) (v := .slice ao2 n cap2) hb11 rfl
  have H3 := Lib.hid (And.intro hE3 hb7)
  clear hE2 hR2 hI2 hE3 hb11 hb7 HT HR q1 q2 q3 n4 n5 n7
  have HZ := Lib.hid (And.intro h0 (And.intro h1 hn))
  clear h0 h1 hn hrl
  have hrr : (r.1 == r.1) = true := by simp
  go_wp2
  try rw [hW3]
  clear hW3
  go_region_with (first | (go_at_call 29; refine (HIN.out _ ?_).mono ?_; exact Ext.drew (Ext.refl _ _); rintro e w7 ⟨rfl, hE7⟩; have r1 := hE7.cell m1 (by simp); have r2 := hE7.cell m2 (by simp); have r7 := hE7.cell m7 (by simp); have r8 := hE7.cell m8 (by simp); have g7 := hE7.frozen f7 z7 (by simp); have g8 := hE7.frozen f8 z7 (by simp); have H7 := Lib.hid hE7; clear hE7 m1 m2 m7 m8 f7 f8 z7) | (go_at_call 25; refine (al_num _ _).mono ?_; rintro e w' ⟨rfl, rfl⟩))
  all_goals go_wp2
  all_goals
    have hE7 : Ext [] W3 w7 := (Ext.refl [] W3).drew.trans H7.out
    refine bodyPost_ret (results_tct Try.results33 _ _ (w.heap.size + 2) _ _ _ _ _ _ rfl rfl (pair_set1 (pair_set0 (hE7.at H3.out.2 (by simp)))) rfl Try.underlying56 rfl (by kernel_rfl)) rfl ?_
    exact act_end (hE7.at H3.out.2 (by simp)) (H0.out.1.wide.trans (H1.out.1.then (H3.out.1.trans hE7))) (by omega) (H1.out.2.2.1.ext (H3.out.1.trans hE7) (by simp) (by simp)) (HR2.out.ext0 hE7) (.inl rfl) (by have := H0.out.2.2.2.2.2.2.1; omega)
end Go.Proofs.Ytgpoplnfhlfogaa
