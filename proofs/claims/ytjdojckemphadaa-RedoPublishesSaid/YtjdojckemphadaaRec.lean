/- redo.Steps; the law's num and works. -/
import Derived.Test.YtjdojckemphadaaReb
namespace Go.Proofs.Ytjdojckemphadaa
open Go Go.RowKit Go.Shelf
attribute [local go_sem] Oper.semAt_some

def putCells (G : Nat → Int × Int) : Nat → List Value
  | 0 => []
  | n + 1 => putCells G n ++ [.int .i64 (G n).1, .int .u64 (G n).2]
theorem putCells_len (G : Nat → Int × Int) (n : Nat) : (putCells G n).length = n * 2 := by
  induction n with
  | zero => rfl
  | succ n ih => simp [putCells, ih]; omega
theorem putCells_get (G : Nat → Int × Int) (n i : Nat) (h : i < n) : (putCells G n)[i * 2]? = some (.int .i64 (G i).1) ∧ (putCells G n)[i * 2 + 1]? = some (.int .u64 (G i).2) := by
  induction n with
  | zero => omega
  | succ n ih =>
    have hl := putCells_len G n
    by_cases hi : i < n
    · obtain ⟨h1, h2⟩ := ih hi
      simp only [putCells]
      rw [List.getElem?_append_left (by omega), List.getElem?_append_left (by omega)]
      exact ⟨h1, h2⟩
    · obtain rfl : i = n := by omega
      simp only [putCells]
      rw [List.getElem?_append_right (by omega), List.getElem?_append_right (by omega), hl]
      simp

theorem puts_of_owns {w : World} {B e : Nat} {v : Value} {n : Nat} {G : Nat → Int × Int} (h : w.ownsRow B e 2 v n (putCells G n)) : ∃ ao cap, v = .slice ao n cap ∧ Puts w ao n G := by
  rcases h.2 with ⟨rfl, rfl⟩ | ⟨g, cap, cur, rfl, _, hg, _, _, hcs, htake⟩
  · exact ⟨none, 0, rfl, .inl rfl⟩
  · refine ⟨_, cap, rfl, .inr ⟨g, 0, rfl, fun i hi => ?_⟩⟩
    obtain ⟨h1, h2⟩ := putCells_get G n i hi
    rw [← htake, List.getElem?_take, if_pos (by omega)] at h1 h2
    simp only [Nat.zero_add]
    exact ⟨by simp [World.cell?, hg]; simpa using h1, by simp [World.cell?, hg]; simpa using h2⟩

theorem infoPut : (Try.prog.info? 36).map (fun i => (i.zero, i.size, i.bytes)) = some (some (.agg #[.int .i64 0, .int .u64 0]), 2, 16) := by kernel_rfl
theorem put_src {w : World} {B : Nat} {a x : Int} (h : w.heap[B]? = some (.cells #[.int .i64 a, .int .u64 x] 36 (0, 0))) : RowSrc w (some ⟨B, 0, none⟩) 1 2 [.int .i64 a, .int .u64 x] := by
  refine .inr ⟨_, rfl, rfl, fun j u hj => ?_, fun u hu => ?_⟩
  · match j, hj with
    | 0, hj => simp at hj; subst hj; exact cell_of h rfl
    | 1, hj => simp at hj; subst hj; exact cell_of h rfl
    | j + 2, hj => simp at hj
  · simp at hu
    rcases hu with rfl | rfl <;> rfl
/-- the puts of Steps -/
def stP (i : Nat) : Int × Int := ((3 + (i : Int)) * 8, 0)
/-- how many touches there are of so many puts, each in a line of its own -/
def stepN (n : Nat) : Nat := if n = 1 then 3 else 34 + 2 * n
def stT (n : Nat) : Bool := (storedL (stoT n stP)).length == n && checkE stP n == 0 && !(anyP (fun q => jHas 0 q.1) stP n)
theorem st_all : (List.range 12).all (fun n => n == 0 || stT n) = true := by kernel_rfl
theorem appT_len (n : Nat) (P : Nat → Int × Int) : (appT n P).length = n + (storedL (stoT n P)).length + 1 := by
  rw [appT_eq, List.length_append, List.length_append, stoT_len]
  unfold flK
  rw [List.length_map]
  rfl
/-- as many touches as Steps says, if no two puts share a line -/
theorem pubT_len {j : Int} {n : Nat} {P : Nat → Int × Int} (h : (storedL (stoT n P)).length = n) : (pubT j n P).length = stepN n := by
  unfold pubT stepN
  by_cases h1 : n = 1
  · rw [if_pos h1, if_pos h1, appT_len, h, h1]
  · rw [if_neg h1, if_neg h1]
    simp only [List.length_append, appT_len, h, fstT, wrT, wrS_len, List.length_cons, List.length_nil]
    omega
theorem pub_steps {n : Nat} (h1 : 1 ≤ n) (h2 : n ≤ 11) : pubE 0 n stP = (pubT 0 n stP, 0) ∧ (pubT 0 n stP).length = stepN n := by
  have h := List.all_eq_true.1 st_all n (List.mem_range.2 (by omega))
  have h0 : (n == 0) = false := by simp; omega
  rw [h0, Bool.false_or] at h
  unfold stT at h
  simp only [Bool.and_eq_true, beq_iff_eq, Bool.not_eq_true'] at h
  obtain ⟨⟨h3, h4⟩, h5⟩ := h
  refine ⟨?_, pubT_len h3⟩
  unfold pubE
  rw [if_pos ⟨by decide, h5⟩, if_pos h4]
def stepV (m : Int) : Int := if m < 1 ∨ 11 < m then 0 else (stepN m.toNat : Int)
set_option maxRecDepth 100000 in
set_option maxHeartbeats 2000000 in
theorem rd_Steps (m : Int) (w : World) : Calls Try.prog 10 #[.int .i64 m] w fun e w' => e = .returned (.int .i64 (stepV m)) ∧ Ext [] w w' := by
  by_cases ho : m < 1 ∨ 11 < m
  · have hv : stepV m = 0 := if_pos ho
    rw [hv]
    clear hv
    obtain ⟨A, hA⟩ : ∃ A, decide (m < 1) = A := ⟨_, rfl⟩
    cases A with
    | true =>
      clear ho
      go_enter Try.func10, Try.ntmps10
      go_wp2
      go_ret
      exact ⟨rfl, Ext.refl _ _⟩
    | false =>
      have hB : (11 : Int) < m := ho.resolve_left (by simpa using hA)
      clear ho
      go_enter Try.func10, Try.ntmps10
      go_wp2
      go_ret
      exact ⟨rfl, Ext.refl _ _⟩
  · obtain ⟨n, rfl⟩ : ∃ n : Nat, m = n := ⟨m.toNat, by omega⟩
    have hv : stepV n = (stepN n : Int) := by unfold stepV; rw [if_neg ho]; rfl
    rw [hv]
    have h1 : 1 ≤ n := by omega
    have h2 : n ≤ 11 := by omega
    obtain ⟨i0, hi, hz0, hz1, hz2⟩ := info_parts infoPut
    have HI := Lib.hid (And.intro hi (And.intro hz0 (And.intro hz1 hz2)))
    have hA : decide ((n : Int) < 1) = false := by simp; omega
    have hB : decide ((11 : Int) < (n : Int)) = false := by simp; omega
    have HN := Lib.hid (And.intro h1 h2)
    clear ho hv h1 h2 hi hz0 hz1 hz2
    go_enter Try.func10, Try.ntmps10
    go_wp2
    go_loopg [3, 14] n (fun cnt v i wr => ∃ j : Nat, i = .int .i64 j ∧ j + cnt = n ∧ wr.ownsRow w.heap.size 36 2 v j (putCells stP j) ∧ Ext [] w wr)
    case atStart => exact ⟨0, rfl, by omega, World.ownsRow_nil _ _ _ _, Ext.refl _ _⟩
    case round =>
      obtain ⟨j, rfl, hjk, hO, hE⟩ := hrel
      by_cases hlt : j < n
      · have hj1 : (j : Int) < (n : Int) := by omega
        have hw1 : wrap64 (3 + (j : Int)) = 3 + (j : Int) := IntWalk.wrap64_in _ (by have := HN.out; omega)
        have hw2 : wrap64 ((3 + (j : Int)) * 8) = (3 + (j : Int)) * 8 := IntWalk.wrap64_in _ (by have := HN.out; omega)
        have hwj : wrap64 ((j : Int) + 1) = (j : Int) + 1 := IntWalk.wrap64_in _ (by have := HN.out; omega)
        have HJ := Lib.hid (And.intro hjk (And.intro hlt (And.intro hO hE)))
        have HB := Lib.hid (And.intro (World.alloc_heap_new wr (.cells #[.int .i64 ((3 + (j : Int)) * 8), .int .u64 0] 36)) ((Ext.refl [] wr).alloc (.cells #[.int .i64 ((3 + (j : Int)) * 8), .int .u64 0] 36)))
        have HS : Hid (RowSrc (wr.alloc (.cells #[.int .i64 ((3 + (j : Int)) * 8), .int .u64 0] 36)) (some ⟨wr.heap.size, 0, none⟩) 1 2 [.int .i64 ((3 + (j : Int)) * 8), .int .u64 0]) := put_src HB.out.1
        clear hjk hlt hO hE
        go_wp2_with (at_builtin; refine wpList_append_any rfl _ _ 22 rfl w.heap.size 36 i0 _ 2 16 Try.underlying22 HI.out.1 HI.out.2.1 HI.out.2.2.1 HI.out.2.2.2 rfl (by omega) _ j _ rfl (owns_ext HJ.out.2.2.1 HB.out.2 (fun _ _ => by simp)) (some ⟨wr.heap.size, 0, none⟩) 1 1 [.int .i64 ((3 + (j : Int)) * 8), .int .u64 0] (by first | rfl | (rw [hw1, hw2])) HS.out ?c1 ?c2 ?c3 ?_)
        case c1 => have h1 := HN.out; have h3 := HJ.out.2.1; unfold maxLen; omega
        case c2 => have h1 := HN.out; have h3 := HJ.out.2.1; omega
        case c3 => have h1 := (HJ.out.2.2.2.trans HB.out.2).size; exact h1
        intro v1 wA ho1 hEA hbA
        have HR : Hid (wA.ownsRow w.heap.size 36 2 v1 (j + 1) (putCells stP (j + 1)) ∧ Ext [] w wA) := ⟨ho1, (HJ.out.2.2.2.trans HB.out.2).trans' hEA (fun b hb => .inr (HJ.out.2.2.1.lt b (by simpa using hb)).1)⟩
        clear ho1 hEA hbA
        go_wp2
        go_roundg (n - (j + 1))
        case measure => have := HJ.out.1; have := HJ.out.2.1; clear hwj hw1 hw2; omega
        case rel => exact ⟨j + 1, by first | (rw [hwj]; rfl) | rfl, by have := HJ.out.1; have := HJ.out.2.1; clear hwj hw1 hw2; omega, HR.out⟩
      · have hjn : ¬ ((j : Int) < (n : Int)) := by omega
        obtain rfl : j = n := by omega
        obtain ⟨ao, cap, rfl, hP⟩ := puts_of_owns hO
        have HP := Lib.hid (rd_Publish 0 ao j cap stP wr hP (by have := HN.out; omega))
        rw [(pub_steps HN.out.1 HN.out.2).1] at HP
        have HE := Lib.hid hE
        clear hjk hlt hO hE hP
        go_wp2_with fail
        refine HP.out.mono ?_
        rintro e w2 ⟨v, rfl, hE2, hT⟩
        obtain ⟨to, tc, rfl, _, _, _⟩ := hT.at (N := 0)
        have HE2 := Lib.hid (HE.out.trans hE2)
        rw [(pub_steps HN.out.1 HN.out.2).2]
        clear hE2 hT
        go_wp2
        go_ret
        exact ⟨rfl, HE2.out⟩

/-- one put -/
theorem puts_one {W : World} {b : Nat} {a x : Int} (h : W.heap[b]? = some (.cells #[.int .i64 a, .int .u64 x] 36 (0, 0))) : Puts W (some ⟨b, 0, none⟩) 1 (fun _ => (a, x)) :=
  .inr ⟨b, 0, rfl, fun i hi => by
    obtain rfl : i = 0 := by omega
    exact ⟨cell_of h rfl, cell_of h rfl⟩⟩
def wk1 : List Tch := [⟨2, 40, 7⟩, ⟨3, 5, 0⟩, ⟨4, 0, 0⟩]
theorem wk_p1 : pubE 1 1 (fun _ => (40, 7)) = (wk1, 0) := by kernel_rfl
theorem wk_p2 : pubE 1 1 (fun _ => (8, 7)) = ([], 2) := by kernel_rfl
theorem wk_p3 : pubE 1022 1 (fun _ => (40, 7)) = ([], 2) := by kernel_rfl
theorem wk_pub (j a x : Int) (w : World) : Calls Try.prog 6 #[.int .i64 j, .slice (some ⟨w.heap.size, 0, none⟩) 1 1] (w.alloc (.cells #[.int .i64 a, .int .u64 x] 36)) fun e w' => ∃ v, e = .returned (.tuple #[v, .int .i64 (pubE j 1 (fun _ => (a, x))).2]) ∧ Ext [] w w' ∧ TcOwn w' w.heap.size v (pubE j 1 (fun _ => (a, x))).1 := by
  have hE : Ext [] w (w.alloc (.cells #[.int .i64 a, .int .u64 x] 36)) := (Ext.refl _ _).alloc _
  refine (rd_Publish j _ 1 1 (fun _ => (a, x)) _ (puts_one (World.alloc_heap_new w _)) (by decide)).mono ?_
  rintro e w' ⟨v, h1, h2, h3⟩
  exact ⟨v, h1, hE.trans h2, h3.low hE.size⟩
theorem wk_same19 (N : Nat) (ao : Option Addr) (ca : Nat) (W : World) (hA : TcAt W N ao wk1) : Calls Try.prog 11 #[.slice ao 3 ca, .slice (some ⟨W.heap.size, 0, none⟩) 3 3] (W.alloc (.cells #[.int .i64 2, .int .i64 40, .int .u64 7, .int .i64 3, .int .i64 5, .int .u64 0, .int .i64 4, .int .i64 0, .int .u64 0] 44)) fun e w' => e = .returned (.bool true) ∧ Ext [] W w' := by
  have hE : Ext [] W (W.alloc (.cells #[.int .i64 2, .int .i64 40, .int .u64 7, .int .i64 3, .int .i64 5, .int .u64 0, .int .i64 4, .int .i64 0, .int .u64 0] 44)) := (Ext.refl _ _).alloc _
  have hL : TcAt (W.alloc (.cells #[.int .i64 2, .int .i64 40, .int .u64 7, .int .i64 3, .int .i64 5, .int .u64 0, .int .i64 4, .int .i64 0, .int .u64 0] 44)) W.heap.size (some ⟨W.heap.size, 0, none⟩) wk1 := TcAt.lit (L := wk1) (World.alloc_heap_new W _)
  have h := ts_Same N W.heap.size ao _ ca 3 wk1 wk1 _ (hA.ext0 hE) hL (by decide) (by decide)
  rw [decide_eq_true rfl] at h
  refine h.mono ?_
  rintro e w' ⟨h1, q, h2⟩
  exact ⟨h1, by rw [h2]; exact hE.drewN q⟩
set_option maxHeartbeats 400000 in
theorem la_num (e : Int) (w : World) : Calls Try.prog 12 #[.int .i64 e] w fun x w' => x = .returned (.int .i64 e) ∧ w' = w := by
  go_enter Try.func12, Try.ntmps12
  go_wp2
  go_ret
  exact ⟨rfl, rfl⟩
set_option maxRecDepth 100000 in
set_option maxHeartbeats 4000000 in
theorem law19_works (w : World) : Calls Try.prog 5 #[] w fun e w' => e = .returned (.bool true) ∧ Ext [] w w' := by
  obtain ⟨W1, hW1⟩ : ∃ W1, w.alloc (.cells #[.int .i64 40, .int .u64 7] 36) = W1 := ⟨_, rfl⟩
  have hb1 : W1.heap[w.heap.size]? = some (.cells #[.int .i64 40, .int .u64 7] 36 (0, 0)) := by rw [← hW1]; exact World.alloc_heap_new _ _
  have hE1 : Ext [] w W1 := by rw [← hW1]; exact (Ext.refl _ _).alloc _
  obtain ⟨pb, hpb⟩ : ∃ b, w.heap.size = b := ⟨_, rfl⟩
  rw [hpb] at hb1
  have H1 := Lib.hid (And.intro hE1 hb1)
  have HP1 := Lib.hid (wk_pub 1 40 7)
  have HP2 := Lib.hid (wk_pub 1 8 7)
  have HP3 := Lib.hid (wk_pub 1022 40 7)
  rw [wk_p1] at HP1
  rw [wk_p2] at HP2
  rw [wk_p3] at HP3
  have HS1 := Lib.hid (rd_Steps 1)
  have HS2 := Lib.hid (rd_Steps 2)
  rw [show stepV 1 = 3 from rfl] at HS1
  rw [show stepV 2 = 38 from rfl] at HS2
  have k0 := cell_of (j := 0) (v := .int .i64 40) hb1 rfl
  have k1 := cell_of (j := 1) (v := .int .u64 7) hb1 rfl
  clear hE1 hb1
  go_enter Try.func5, Try.ntmps5
  go_wp2_with fail
  refine (HP1.out _).mono ?_
  rintro e w2 ⟨v2, rfl, hE2, hT2⟩
  obtain ⟨a2, c2, rfl, hA2, _, _⟩ := hT2.at (N := 0)
  have H2 := Lib.hid (And.intro (H1.out.1.trans hE2) hA2)
  have k0 := hE2.cell k0 (by simp)
  have k1 := hE2.cell k1 (by simp)
  clear hE2 hT2 hA2
  go_wp2_with fail
  refine (HP2.out _).mono ?_
  rintro e w3 ⟨v3, rfl, hE3, _⟩
  have H3 := Lib.hid (And.intro (H2.out.1.trans hE3) (H2.out.2.ext0 hE3))
  have k0 := hE3.cell k0 (by simp)
  have k1 := hE3.cell k1 (by simp)
  clear hE3
  go_wp2_with fail
  refine (HP3.out _).mono ?_
  rintro e w4 ⟨v4, rfl, hE4, _⟩
  have H4 := Lib.hid (And.intro (H3.out.1.trans hE4) (H3.out.2.ext0 hE4))
  clear hE4 k0 k1
  go_wp2_with (go_at_call 12; refine (la_num _ _).mono ?_; rintro e w' ⟨rfl, rfl⟩)
  refine (wk_same19 0 _ _ _ H4.out.2).mono ?_
  rintro e w5 ⟨rfl, hE5⟩
  have H5 := Lib.hid (H4.out.1.trans hE5)
  clear hE5
  go_wp2_with fail
  refine (HS1.out _).mono ?_
  rintro e w6 ⟨rfl, hE6⟩
  have H6 := Lib.hid (H5.out.trans hE6)
  clear hE6
  go_wp2_with fail
  refine (HS2.out _).mono ?_
  rintro e w7 ⟨rfl, hE7⟩
  have H7 := Lib.hid (H6.out.trans hE7)
  clear hE7
  go_wp2_with (go_at_call 12; refine (la_num _ _).mono ?_; rintro e w' ⟨rfl, rfl⟩)
  go_ret
  exact ⟨rfl, H7.out⟩
end Go.Proofs.Ytjdojckemphadaa
