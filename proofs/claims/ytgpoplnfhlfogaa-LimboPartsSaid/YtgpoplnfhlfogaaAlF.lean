/- Package alloc: turn, Give, Claim. -/
import Derived.Test.YtgpoplnfhlfogaaAlE
namespace Go.Proofs.Ytgpoplnfhlfogaa
open Go Go.RowKit Go.Shelf

theorem turnS_append (t : Bool) : ∀ (a b : List Int) (S : Lns), turnS t (a ++ b) S = (turnS t a S).bind (turnS t b)
  | [], b, S => rfl
  | k :: a, b, S => by
    simp only [List.cons_append, turnS]
    by_cases h : (S k).1 = t
    · rw [if_pos h, if_pos h]; rfl
    · rw [if_neg h, if_neg h, turnS_append t a b]
theorem turnS_one (t : Bool) (k : Int) (S : Lns) : turnS t [k] S = if (S k).1 = t then none else some (setL S t k) := rfl
theorem turnS_cnt {t : Bool} {ks : List Int} {S S1 : Lns} (h : turnS t ks S = some S1) (q : Int) : (S q).2 ≤ (S1 q).2 ∧ (S1 q).2 ≤ (S q).2 + 1 := by
  obtain ⟨_, _, rfl⟩ := (turnS_iff t ks S S1).1 h
  unfold allL
  by_cases hq : q ∈ ks
  · rw [if_pos hq]; cases t <;> simp <;> omega
  · rw [if_neg hq]; omega
theorem lst_split (L : Nat → Int) (j n : Nat) (h : j < n) : ∃ r, lst L n = lst L j ++ L j :: r := by
  obtain ⟨d, rfl⟩ : ∃ d, n = j + 1 + d := ⟨n - (j + 1), by omega⟩
  refine ⟨(List.range d).map fun i => L (j + 1 + i), ?_⟩
  have : lst L (j + 1 + d) = lst L (j + 1) ++ (List.range d).map fun i => L (j + 1 + i) := by
    unfold lst
    rw [List.range_add, List.map_append, List.map_map]
    rfl
  rw [this, lst_succ, List.append_assoc]; rfl
theorem turnS_stop {t : Bool} {L : Nat → Int} {j n : Nat} {S S1 : Lns} (h : turnS t (lst L j) S = some S1) (hj : j < n) (ht : (S1 (L j)).1 = t) : turnS t (lst L n) S = none := by
  obtain ⟨r, hr⟩ := lst_split L j n hj
  rw [hr, turnS_append, h]
  show turnS t (L j :: r) S1 = none
  unfold turnS
  rw [if_pos ht]
theorem turnS_step {t : Bool} {L : Nat → Int} {j : Nat} {S S1 : Lns} (h : turnS t (lst L j) S = some S1) (ht : (S1 (L j)).1 ≠ t) : turnS t (lst L (j + 1)) S = some (setL S1 t (L j)) := by
  rw [lst_succ, turnS_append, h]
  show turnS t [L j] S1 = _
  rw [turnS_one, if_neg ht]

def lineV (p : Bool × Int) : Value := .agg #[.bool p.1, .int .i64 p.2]
theorem Lines.set {w : World} {b : Nat} {l : Ents} {S : Lns} {k : Int} {p : Bool × Int} (h : IMap w b (upd l k (lineV p))) (hl : ∀ j, (look l j).getD (.agg #[.bool false, .int .i64 0]) = .agg #[.bool (S j).1, .int .i64 (S j).2]) :
    Lines w b (fun j => if j = k then p else S j) := by
  refine ⟨_, h, fun j => ?_⟩
  rw [look_upd]
  by_cases hj : j = k
  · rw [if_pos hj]; simp only [if_pos hj]; rfl
  · rw [if_neg hj]; simp only [if_neg hj]; exact hl j
theorem anyB_has {lo : Int} {n : Nat} {L : Nat → Int} {m : Nat} : anyB (fun k => !hasB lo (lo + (n : Int) - 1) k) L m = false ↔ ∀ k ∈ lst L m, lo ≤ k ∧ k < lo + n := by
  unfold anyB hasB
  rw [List.any_eq_false]
  constructor
  · intro h k hk
    have := h k hk
    simp at this
    omega
  · intro h k hk
    have := h k hk
    simp
    omega

def CntB (S : Lns) : Prop := ∀ q, 0 ≤ (S q).2 ∧ (S q).2 ≤ 1000000000000

theorem three_set {w : World} {b : Nat} {x v y u : Value} {t : TypeId} (h : w.heap[b]? = some (.cells #[x, v, y] t (0, 0))) : (w.setCell ⟨b, 2, none⟩ u).heap[b]? = some (.cells #[x, v, u] t (0, 0)) := by
  simp only [World.setCell, Array.getElem?_modify, if_true, h]; rfl
theorem Lines.setCell {w : World} {mb : Nat} {S : Lns} (h : Lines w mb S) {a : Addr} (ha : mb ≠ a.block) (v : Value) : Lines (w.setCell a v) mb S := by
  obtain ⟨l, h1, h2⟩ := h
  exact ⟨l, h1.setCell ha v, h2⟩

/-- a pool turned: the error, and where it lies then -/
def TurnPost (w : World) (c mb : Nat) (lo : Int) (n : Nat) (r : Int × Lns) (e : Ending) (w' : World) : Prop :=
  e = .returned (.int .i64 r.1) ∧ Ext [c] w w' ∧ ∃ mb', Pool w' c mb' lo (lo + (n : Int) - 1) r.2 ∧ (mb' = mb ∨ w.heap.size ≤ mb')

set_option maxRecDepth 100000 in
set_option maxHeartbeats 4000000 in
theorem al_turn (c mb : Nat) (lo : Int) (n : Nat) (S : Lns) (t : Bool) (er : Int) (ao : Option Addr) (m cap : Nat) (L : Nat → Int) (w : World) (h : Pool w c mb lo (lo + (n : Int) - 1) S) (hp : IntsB w ao m L) (hm : m ≤ 9223372036854775807) (hB : CntB S) :
    Calls Try.prog 74 #[.pointer (some ⟨c, 0, none⟩), .bool t, .int .i64 er, .slice ao m cap] w (TurnPost w c mb lo n (turnN S lo n t er (lst L m))) := by
  have HT := Lib.hid (And.intro h (And.intro hp hB))
  have hcf := enters_of Try.func108 (by kernel_rfl) rfl
  have hE1 := (Ext.refl [] w).alloc (.cells #[.pointer (some ⟨c, 0, none⟩)] 39)
  have hbp : (w.alloc (.cells #[.pointer (some ⟨c, 0, none⟩)] 39)).heap[w.heap.size]? = some (.cells #[.pointer (some ⟨c, 0, none⟩)] 39 (0, 0)) := World.alloc_heap_new _ _
  have hs1 : (w.alloc (.cells #[.pointer (some ⟨c, 0, none⟩)] 39)).heap.size = w.heap.size + 1 := by simp
  have hcw : c < w.heap.size := lt_of_block h.1
  have hmw : mb < w.heap.size := h.2.lt
  clear h hp hB
  generalize hw1 : w.alloc (.cells #[.pointer (some ⟨c, 0, none⟩)] 39) = w1 at *
  have hp1 := HT.out.1.ext hE1 (by simp) (by simp)
  have H1 := Lib.hid (And.intro hE1 (And.intro hbp (And.intro hs1 hp1)))
  have k1 := cell_of (j := 0) (v := .pointer (some ⟨c, 0, none⟩)) hbp rfl
  have k4 := cell_of (j := 2) (v := .map (some mb)) hp1.1 rfl
  clear hE1 hbp hs1 hp1
  go_enter Try.func74, Try.ntmps74
  go_wp2_with fail
  refine (al_none c mb lo _ S w1 H1.out.2.2.2).mono ?_
  rintro e w' ⟨rfl, rfl⟩
  go_wp2_with fail
  refine (sl_has 108 #[.pointer (some ⟨w.heap.size, 0, none⟩)] (fun k => !hasB lo (lo + (n : Int) - 1) k) (fun W => W.cell? ⟨w.heap.size, 0, none⟩ = some (.pointer (some ⟨c, 0, none⟩)) ∧ Pool W c mb lo (lo + (n : Int) - 1) S) ao m cap L _ (HT.out.2.1.ext H1.out.1) hm
    (fun W W' h hE => ⟨hE.cell h.1 (by simp), h.2.ext hE (by simp) (by simp)⟩) ⟨k1, H1.out.2.2.2⟩ hcf (fun W hW k => al_turn1 w.heap.size c mb lo _ S k W hW.1 hW.2)).mono ?_
  rintro e w2 ⟨rfl, hE2⟩
  have hp2 := H1.out.2.2.2.ext hE2 (by simp) (by simp)
  have k12 := hE2.cell k1 (by simp)
  have k42 := hE2.cell k4 (by simp)
  have hs2 : w.heap.size + 1 ≤ w2.heap.size := by have := hE2.size; have := H1.out.2.2.1; omega
  have H2 := Lib.hid (And.intro (H1.out.1.trans hE2) hp2)
  have f2 := free_of hp2.1 2
  clear hE2 hp2 k1 k4 hw1
  cases ha : anyB (fun k => !hasB lo (lo + (n : Int) - 1) k) L m with
  | true =>
    have HV : Hid (turnN S lo n t er (lst L m) = (4, S)) := by
      unfold Hid turnN
      rw [if_neg (fun h => by rw [anyB_has.2 h] at ha; cases ha)]
    clear ha
    go_wp2
    go_ret
    rw [HV.out]
    exact ⟨rfl, H2.out.1.wide, mb, H2.out.2, .inl rfl⟩
  | false =>
    have HV : Hid (turnN S lo n t er (lst L m) = match turnS t (lst L m) S with | some S' => (0, S') | none => (er, S)) := by
      unfold Hid turnN
      rw [if_pos (anyB_has.1 ha)]
      cases turnS t (lst L m) S <;> rfl
    clear ha
    obtain ⟨l, hl1, hl2⟩ := H2.out.2.2
    have HL := Lib.hid hl2
    have HL1 := Lib.hid hl1
    clear hl1 hl2
    go_wp2_with fail
    refine (mp_clone mb l w2 HL1.out).mono ?_
    rintro e w3 ⟨rfl, hE3, hs3, hI3⟩
    obtain ⟨nb, hnb⟩ : ∃ nb, nb = w2.heap.size := ⟨_, rfl⟩
    have HS0 : Hid (Lines w3 nb S) := ⟨l, by rw [hnb]; exact hI3, HL.out⟩
    rw [← hnb] at hs3 ⊢
    have hnbw : w.heap.size < nb := by omega
    have hcnb : c ≠ nb := by omega
    have H3 := Lib.hid (H2.out.1.trans hE3)
    have k13 := hE3.cell k12 (by simp)
    have f3 := hE3.frozen f2 (show c < w2.heap.size from lt_of_block H2.out.2.1) (by simp)
    have hp3 := Lib.hid (H2.out.2.ext hE3 (by simp) (by simp))
    have k43 := cell_of (j := 2) (v := .map (some mb)) hp3.out.1 rfl
    have hnb3 : nb < w3.heap.size := by omega
    clear hI3 hE3 hs3 k12 k42 f2 HL HL1 hnb
    go_wp2
    go_loopg [25] m (fun k i wr => ∃ (j : Nat) (S1 : Lns), i = .int .i64 j ∧ j + k = m ∧ turnS t (lst L j) S = some S1 ∧ Lines wr nb S1 ∧ Ext [nb] w3 wr)
    case atStart => exact ⟨0, S, rfl, by omega, rfl, HS0.out, Ext.refl _ _⟩
    case round =>
      obtain ⟨j, S1, rfl, hjk, hS1, hLn, hE⟩ := hrel
      have hE' := H3.out.wide.trans' hE (m := []) (fun q hq => .inr (by simp at hq; omega))
      have k14 := hE.cell k13 (show w.heap.size ∉ [nb] from by simp; omega)
      have k44 := hE.cell k43 (show c ∉ [nb] from by simp; omega)
      have f4 := hE.frozen f3 (show c < w3.heap.size from by omega) (show c ∉ [nb] from by simp; omega)
      have hpw := Lib.hid (hp3.out.1)
      have HR := Lib.hid (And.intro hS1 (And.intro hLn (And.intro hE hE')))
      clear hS1 hLn hE hE'
      by_cases hlt : j < m
      · obtain ⟨b, off, rfl, hcell⟩ : ∃ b off, ao = some ⟨b, off, none⟩ ∧ wr.cell? ⟨b, off + j, none⟩ = some (.int .i64 (L j)) := by
          rcases HT.out.2.1.ext HR.out.2.2.2 with h | ⟨b, off, h1, h2⟩
          · omega
          · exact ⟨b, off, h1, h2 j hlt⟩
        have hlk := look_line HR.out.2.1 (L j)
        have hb1 := turnS_cnt HR.out.1 (L j)
        have hb2 := HT.out.2.2 (L j)
        obtain ⟨b1, u1, hbu⟩ : ∃ b1 u1, (S1 (L j)) = (b1, u1) := ⟨_, _, rfl⟩
        rw [hbu] at hlk hb1
        have hu0 : 0 ≤ u1 := by omega
        have hu1 : u1 ≤ 1000000000001 := by omega
        clear hb1 hb2
        obtain ⟨q, hq⟩ : ∃ q, q = L j := ⟨_, rfl⟩
        rw [← hq] at hcell hlk hbu
        have HQ := Lib.hid hq
        have HBU := Lib.hid hbu
        clear hq hbu
        cases b1 <;> cases t
        · have HV2 : Hid (turnN S lo n false er (lst L m) = (er, S)) := by
            unfold Hid
            rw [HV.out, turnS_stop HR.out.1 hlt (by rw [← HQ.out, HBU.out])]
          go_wp2
          go_ret
          rw [HV2.out]
          exact ⟨rfl, (H3.out.trans' HR.out.2.2.1 (fun q hq => .inr (by simp at hq; omega))).alloc _ |>.wide, mb, (hp3.out.ext HR.out.2.2.1 (by simp; omega) (by simp; omega)).ext ((Ext.refl [] _).alloc _) (by simp) (by simp), .inl rfl⟩
        · obtain ⟨l5, hi5, hl5⟩ := HR.out.2.1
          obtain ⟨w5, hset, hE5, hI5, hs5⟩ := run_mapSet' (P := Try.prog) 63 3 114 Try.underlying63 Try.underlying3 (hi5.alloc (.cells #[.bool true, .int .i64 (u1 + 1)] 114)) q (.agg #[.bool true, .int .i64 (u1 + 1)])
          have HS5 : Hid (turnS true (lst L (j + 1)) S = some (setL S1 true q) ∧ Lines w5 nb (setL S1 true q) ∧ Ext [nb] w3 w5) := by
            refine ⟨?_, ?_, (HR.out.2.2.1.alloc _).trans hE5⟩
            · rw [HQ.out]; exact turnS_step HR.out.1 (by rw [← HQ.out, HBU.out]; simp)
            · have := Lines.set (p := (true, (u1 + 1))) hI5 hl5
              rwa [show setL S1 true q = (fun j => if j = q then (true, (u1 + 1)) else S1 j) from by unfold setL; rw [HBU.out]; rfl]
          clear hi5 hl5 hE5 hI5 hs5
          go_wp2
          go_roundg (m - (j + 1))
          case measure => omega
          case rel => exact ⟨j + 1, _, by go_num, by omega, HS5.out⟩
        · obtain ⟨l5, hi5, hl5⟩ := HR.out.2.1
          obtain ⟨w5, hset, hE5, hI5, hs5⟩ := run_mapSet' (P := Try.prog) 63 3 114 Try.underlying63 Try.underlying3 (hi5.alloc (.cells #[.bool false, .int .i64 u1] 114)) q (.agg #[.bool false, .int .i64 u1])
          have HS5 : Hid (turnS false (lst L (j + 1)) S = some (setL S1 false q) ∧ Lines w5 nb (setL S1 false q) ∧ Ext [nb] w3 w5) := by
            refine ⟨?_, ?_, (HR.out.2.2.1.alloc _).trans hE5⟩
            · rw [HQ.out]; exact turnS_step HR.out.1 (by rw [← HQ.out, HBU.out]; simp)
            · have := Lines.set (p := (false, u1)) hI5 hl5
              rwa [show setL S1 false q = (fun j => if j = q then (false, u1) else S1 j) from by unfold setL; rw [HBU.out]; rfl]
          clear hi5 hl5 hE5 hI5 hs5
          go_wp2
          go_roundg (m - (j + 1))
          case measure => omega
          case rel => exact ⟨j + 1, _, by go_num, by omega, HS5.out⟩
        · have HV2 : Hid (turnN S lo n true er (lst L m) = (er, S)) := by
            unfold Hid
            rw [HV.out, turnS_stop HR.out.1 hlt (by rw [← HQ.out, HBU.out])]
          go_wp2
          go_ret
          rw [HV2.out]
          exact ⟨rfl, (H3.out.trans' HR.out.2.2.1 (fun q hq => .inr (by simp at hq; omega))).alloc _ |>.wide, mb, (hp3.out.ext HR.out.2.2.1 (by simp; omega) (by simp; omega)).ext ((Ext.refl [] _).alloc _) (by simp) (by simp), .inl rfl⟩
      · have hge : m ≤ j := by omega
        have hjm : j = m := by omega
        have HV2 : Hid (turnN S lo n t er (lst L m) = (0, S1)) := by
          unfold Hid
          rw [HV.out, ← hjm, HR.out.1]
        clear hjm
        go_wp2
        go_ret
        rw [HV2.out]
        exact ⟨rfl, HR.out.2.2.2.wide.setCell (.inl (by simp)) _, nb, ⟨three_set (HR.out.2.2.1.at hpw.out (show c ∉ [nb] from by simp; omega)), HR.out.2.1.setCell (show nb ≠ c from by omega) _⟩, .inr (by omega)⟩
set_option maxHeartbeats 400000 in
theorem al_Give (c mb : Nat) (lo : Int) (n : Nat) (S : Lns) (ao : Option Addr) (m cap : Nat) (L : Nat → Int) (w : World) (h : Pool w c mb lo (lo + (n : Int) - 1) S) (hp : IntsB w ao m L) (hm : m ≤ 9223372036854775807) (hB : CntB S) :
    Calls Try.prog 26 #[.pointer (some ⟨c, 0, none⟩), .slice ao m cap] w (TurnPost w c mb lo n (turnN S lo n false 5 (lst L m))) := by
  have H := Lib.hid (al_turn c mb lo n S false 5 ao m cap L w h hp hm hB)
  clear h hp hB
  go_enter Try.func26, Try.ntmps26
  go_wp2_with fail
  refine H.out.mono ?_
  rintro e w' ⟨rfl, hE, hP⟩
  have HP := Lib.hid hP
  clear hP
  go_wp2
  go_ret
  exact ⟨rfl, hE, HP.out⟩
set_option maxHeartbeats 400000 in
theorem al_Claim (c mb : Nat) (lo : Int) (n : Nat) (S : Lns) (ao : Option Addr) (m cap : Nat) (L : Nat → Int) (w : World) (h : Pool w c mb lo (lo + (n : Int) - 1) S) (hp : IntsB w ao m L) (hm : m ≤ 9223372036854775807) (hB : CntB S) :
    Calls Try.prog 27 #[.pointer (some ⟨c, 0, none⟩), .slice ao m cap] w (TurnPost w c mb lo n (turnN S lo n true 231 (lst L m))) := by
  have H := Lib.hid (al_turn c mb lo n S true 231 ao m cap L w h hp hm hB)
  clear h hp hB
  go_enter Try.func27, Try.ntmps27
  go_wp2_with fail
  refine H.out.mono ?_
  rintro e w' ⟨rfl, hE, hP⟩
  have HP := Lib.hid hP
  clear hP
  go_wp2
  go_ret
  exact ⟨rfl, hE, HP.out⟩

def countN (S : Lns) (lo hi : Int) (k : Int) : Int × Int := if hasB lo hi k = true then ((S k).2, 0) else (0, 4)
set_option maxRecDepth 100000 in
set_option maxHeartbeats 1000000 in
theorem al_Count (c mb : Nat) (lo hi : Int) (S : Lns) (k : Int) (w : World) (h : Pool w c mb lo hi S) :
    Calls Try.prog 35 #[.pointer (some ⟨c, 0, none⟩), .int .i64 k] w fun e w' => e = .returned (.tuple #[.int .i64 (countN S lo hi k).1, .int .i64 (countN S lo hi k).2]) ∧ Ext [] w w' := by
  have HN := Lib.hid (al_none c mb lo hi S w h)
  have HH := Lib.hid (al_has lo hi k w)
  have k2 := cell_of (j := 0) (v := .int .i64 lo) h.1 rfl
  have k3 := cell_of (j := 1) (v := .int .i64 hi) h.1 rfl
  have k4 := cell_of (j := 2) (v := .map (some mb)) h.1 rfl
  have HLK := Lib.hid (fun W (hE : Ext [] w W) => look_line (h.2.ext hE (by simp)) k)
  have hfd := line_f1
  clear h
  cases hh : hasB lo hi k with
  | true =>
    have HCN : Hid (countN S lo hi k = ((S k).2, 0)) := by unfold Hid countN; rw [hh]; rfl
    rw [hh] at HH
    clear hh
    generalize (S k).1 = t at *
    generalize (S k).2 = u at *
    go_enter Try.func35, Try.ntmps35
    go_wp2_with fail
    refine HN.out.mono ?_
    rintro e w' ⟨rfl, rfl⟩
    go_wp2_with fail
    refine HH.out.mono ?_
    rintro e w2 ⟨rfl, hE⟩
    have k4' := hE.cell k4 (by simp)
    have HE := Lib.hid hE
    have hlk := HLK.out w2 hE
    clear k4 k2 k3 hE
    go_wp2
    go_ret2
    rw [HCN.out]
    exact ⟨rfl, HE.out⟩
  | false =>
    have HCN : Hid (countN S lo hi k = (0, 4)) := by unfold Hid countN; rw [hh]; rfl
    rw [hh] at HH
    clear hh
    generalize (S k).1 = t at *
    generalize (S k).2 = u at *
    go_enter Try.func35, Try.ntmps35
    go_wp2_with fail
    refine HN.out.mono ?_
    rintro e w' ⟨rfl, rfl⟩
    go_wp2_with fail
    refine HH.out.mono ?_
    rintro e w2 ⟨rfl, hE⟩
    have k4' := hE.cell k4 (by simp)
    have HE := Lib.hid hE
    have hlk := HLK.out w2 hE
    clear k4 k2 k3 hE
    go_wp2
    go_ret2
    rw [HCN.out]
    exact ⟨rfl, HE.out⟩

theorem three_new {w : World} (a b c : Value) (t : TypeId) : (w.alloc (.cells #[a, b, c] t)).heap[w.heap.size]? = some (.cells #[a, b, c] t (0, 0)) := World.alloc_heap_new _ _
def S0 : Lns := fun _ => (false, 0)
theorem lines_made (w : World) : Lines (w.alloc (.map #[] 0)) w.heap.size S0 := ⟨[], IMap.made w, fun _ => rfl⟩
set_option maxRecDepth 100000 in
set_option maxHeartbeats 1000000 in
theorem al_New (lo hi : Int) (w : World) (h0 : 0 ≤ lo) (h1 : lo ≤ hi) (h2 : hi < 1024) :
    Calls Try.prog 22 #[.int .i64 lo, .int .i64 hi] w fun e w' => e = .returned (.tuple #[.pointer (some ⟨w.heap.size + 1, 0, none⟩), .int .i64 0]) ∧ Ext [] w w' ∧ Pool w' (w.heap.size + 1) w.heap.size lo hi S0 := by
  have hmm := @run_makeMap Try.prog
  go_enter Try.func22, Try.ntmps22
  go_wp2
  go_ret2
  have hn := World.alloc_heap_new (w.alloc (.map #[] 0)) (.cells #[.int .i64 lo, .int .i64 hi, .map (some w.heap.size)] 65)
  rw [World.size_alloc] at hn
  exact ⟨rfl, ((Ext.refl [] w).alloc _).alloc _, hn, (lines_made w).ext ((Ext.refl [] _).alloc _) (by simp)⟩
end Go.Proofs.Ytgpoplnfhlfogaa
