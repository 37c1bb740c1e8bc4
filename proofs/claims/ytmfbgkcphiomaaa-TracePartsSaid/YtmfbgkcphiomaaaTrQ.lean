/- The document's Stores; rows of an address and a word. -/
import Derived.Test.YtmfbgkcphiomaaaTrP
namespace Go.Proofs.Ytmfbgkcphiomaaa
open Go Go.RowKit Go.Shelf
attribute [local go_sem] Oper.semAt_some

/-- rows of an address and a word -/
def pR (P : List (Int × Int)) : Nat → List Value := fun i => [.int .i64 (P.getD i (0, 0)).1, .int .u64 (P.getD i (0, 0)).2]
theorem pR_ok (n : Nat) (P : List (Int × Int)) : RowOk n 2 (pR P) := ⟨fun _ _ => rfl, fun i _ u hu => by simp [pR] at hu; rcases hu with rfl | rfl <;> rfl⟩
theorem infoPutB : (Try.prog.info? 41).map (fun i => (i.zero, i.size, i.bytes)) = some (some (.agg #[.int .i64 0, .int .u64 0]), 2, 16) := by kernel_rfl
/-- such rows of one's own -/
def PutOwn (w : World) (base : Nat) (v : Value) (P : List (Int × Int)) : Prop := w.ownsRow base 41 2 v P.length (rowC (pR P) P.length)
theorem PutOwn.nil (w : World) (base : Nat) : PutOwn w base (.slice none 0 0) [] := World.ownsRow_nil _ _ _ _
theorem PutOwn.at {w : World} {base : Nat} {v : Value} {P : List (Int × Int)} (h : PutOwn w base v P) : ∃ ao cap, v = .slice ao P.length cap ∧ RowAt w ao P.length 2 (pR P) ∧ ∀ p, ao = some p → base ≤ p.block ∧ p.block < w.heap.size := by
  obtain ⟨ao, cap, rfl, h1, h2⟩ := RowAt.of_owns (pR_ok _ _) h
  exact ⟨ao, cap, rfl, h1, fun p hp => ⟨(h2 p hp).1, (h2 p hp).2.1⟩⟩
theorem PutOwn.ext {w w' : World} {base : Nat} {v : Value} {P : List (Int × Int)} (h : PutOwn w base v P) (hE : Ext [] w w') : PutOwn w' base v P := owns_ext h hE (fun _ _ => by simp)
theorem PutOwn.low {w : World} {base base' : Nat} {v : Value} {P : List (Int × Int)} (h : PutOwn w base v P) (hb : base' ≤ base) : PutOwn w base' v P := owns_base h hb
theorem pR_snoc (P : List (Int × Int)) (p : Int × Int) : rowC (pR (P ++ [p])) (P.length + 1) = rowC (pR P) P.length ++ [.int .i64 p.1, .int .u64 p.2] := by
  show rowC (pR (P ++ [p])) P.length ++ pR (P ++ [p]) P.length = _
  congr 1
  · refine rowC_congr (fun i hi => ?_)
    unfold pR
    rw [List.getD_eq_getElem?_getD, List.getElem?_append_left hi, ← List.getD_eq_getElem?_getD]
  · unfold pR
    rw [List.getD_eq_getElem?_getD, List.getElem?_append_right (Nat.le_refl _), Nat.sub_self]
    rfl
theorem PutOwn.snoc {w : World} {base n : Nat} {v : Value} {P : List (Int × Int)} (p : Int × Int) (hn : P.length = n) (h : w.ownsRow base 41 2 v (n + 1) (rowC (pR P) n ++ [.int .i64 p.1, .int .u64 p.2])) : PutOwn w base v (P ++ [p]) := by
  subst hn
  unfold PutOwn
  rw [List.length_append]
  show w.ownsRow base 41 2 v (P.length + 1) (rowC (pR (P ++ [p])) (P.length + 1))
  rw [pR_snoc]
  exact h
theorem put_src {w : World} {B : Nat} (a x : Int) {t : TypeId} (h : w.heap[B]? = some (.cells #[.int .i64 a, .int .u64 x] t (0, 0))) : RowSrc w (some ⟨B, 0, none⟩) 1 2 [.int .i64 a, .int .u64 x] := by
  refine .inr ⟨_, rfl, rfl, fun j u hj => ?_, fun u hu => ?_⟩
  · match j, hj with
    | 0, hj => simp at hj; subst hj; exact cell_of h rfl
    | 1, hj => simp at hj; subst hj; exact cell_of h rfl
    | j + 2, hj => simp at hj
  · simp at hu
    rcases hu with rfl | rfl <;> rfl
theorem PutAt.cells {w : World} {ao : Option Addr} {P : List (Int × Int)} {n : Nat} (h : RowAt w ao n 2 (pR P)) {i : Nat} (hi : i < n) : ∃ b off, ao = some ⟨b, off, none⟩ ∧
    w.cell? ⟨b, off + i * 2, none⟩ = some (.int .i64 (P.getD i (0, 0)).1) ∧ w.cell? ⟨b, off + i * 2 + 1, none⟩ = some (.int .u64 (P.getD i (0, 0)).2) := by
  rcases h with h | ⟨b, off, h1, h2⟩
  · omega
  · exact ⟨b, off, h1, h2 i hi 0 (by omega), h2 i hi 1 (by omega)⟩
theorem putsJ_len (L : List Tch) (S : List Int) (j : Nat) : (putsJ L S j).length ≤ j := by
  unfold putsJ
  rw [List.length_map]
  exact Nat.le_trans (List.length_filter_le _ _) (by simp)

theorem adr_facts (j q : Nat) (x : Int) (hlt : j < 8 * q) (hq : q ≤ 1024) (hx : 0 ≤ x ∧ x < 1024) :
    (j : Int).tdiv 8 = ((j / 8 : Nat) : Int) ∧ (j : Int).tmod 8 = ((j % 8 : Nat) : Int) ∧ wrap64 ((j / 8 : Nat) : Int) = ((j / 8 : Nat) : Int) ∧ wrap64 ((j % 8 : Nat) : Int) = ((j % 8 : Nat) : Int) ∧
    (0 : Int) ≤ ((j / 8 : Nat) : Int) ∧ ((j / 8 : Nat) : Int) < (q : Int) ∧ wrap64 (8 * x) = 8 * x ∧ wrap64 (8 * x + ((j % 8 : Nat) : Int)) = 8 * x + ((j % 8 : Nat) : Int) ∧ wrap64 ((j : Int) + 1) = (j : Int) + 1 ∧ (j : Int) < 8 * (q : Int) := by
  have h1 : j / 8 < q := by omega
  have h2 : j % 8 < 8 := by omega
  refine ⟨by rw [Int.tdiv_eq_ediv_of_nonneg (by omega)]; omega, by rw [Int.tmod_eq_emod_of_nonneg (by omega)]; omega, ?_, ?_, by omega, by omega, IntWalk.wrap64_in _ (by omega), ?_, IntWalk.wrap64_in _ (by omega), by omega⟩
  · generalize j / 8 = d at *
    exact IntWalk.wrap64_in _ (by omega)
  · generalize j % 8 = r at *
    exact IntWalk.wrap64_in _ (by omega)
  · generalize j % 8 = r at *
    exact IntWalk.wrap64_in _ (by omega)

set_option maxRecDepth 100000 in
set_option maxHeartbeats 4000000 in
theorem ts_Stores (N : Nat) (ao : Option Addr) (cap : Nat) (L : List Tch) (w : World) (hp : TcAt w N ao L) (hn : L.length ≤ 1000000) (hr : ∀ t ∈ L, t.right = true) :
    Calls Try.prog 18 #[.slice ao L.length cap] w fun e w' => ∃ v, e = .returned v ∧ PutOwn w' w.heap.size v (putsL L) ∧ Ext [] w w' := by
  have HSt := Lib.hid (ts_stored N ao cap L w hp hn hr)
  obtain ⟨S, hS⟩ : ∃ S, storedL L = S := ⟨_, rfl⟩
  have hall := putsJ_all hr
  rw [hS] at HSt hall
  have hSb : ∀ i, i < S.length → 0 ≤ S.getD i 0 ∧ S.getD i 0 < 1024 := fun i hi => by
    have hm : S.getD i 0 ∈ storedL L := by rw [hS, List.getD_eq_getElem?_getD, List.getElem?_eq_getElem hi]; exact List.getElem_mem hi
    have := mem_upto.1 hm
    omega
  have hSl : S.length ≤ 1024 := by rw [← hS]; exact upto_len _ _
  obtain ⟨n, hnl⟩ : ∃ n, L.length = n := ⟨_, rfl⟩
  obtain ⟨q, hq⟩ : ∃ q, S.length = q := ⟨_, rfl⟩
  obtain ⟨i0, hi, hz0, hz1, hz2⟩ := info_parts infoPutB
  have HI := Lib.hid (And.intro hi (And.intro hz0 (And.intro hz1 hz2)))
  rw [hnl] at hn HSt ⊢
  rw [hq] at hall hSb hSl
  have HP := Lib.hid (And.intro hp (And.intro hnl (And.intro hall (And.intro hSb (And.intro hSl (And.intro hq hn))))))
  have hw8 : wrap64 (8 * (q : Int)) = 8 * (q : Int) := IntWalk.wrap64_in _ (by omega)
  clear hp hr hnl hS hall hSb hSl hi hz0 hz1 hz2 hn
  go_enter Try.func18, Try.ntmps18
  go_wp2_with fail
  refine HSt.out.mono ?_
  rintro e w1 ⟨v, rfl, hO, hE1⟩
  obtain ⟨bo, bcap, rfl, hIn, _⟩ := hO.at
  rw [hq]
  have H1 := Lib.hid (And.intro hIn hE1)
  clear hO hIn hE1 hq
  go_wp2
  go_loopg [3, 5] (8 * q) (fun cnt v i wr => ∃ j : Nat, i = .int .i64 j ∧ j + cnt = 8 * q ∧ PutOwn wr w1.heap.size v (putsJ L S j) ∧ Ext [] w1 wr)
  case atStart => exact ⟨0, rfl, by omega, PutOwn.nil _ _, Ext.refl _ _⟩
  case round =>
    obtain ⟨j, rfl, hjk, hO, hE⟩ := hrel
    obtain ⟨vo, vcap, rfl, _, _⟩ := hO.at
    have hlen := putsJ_len L S j
    have hsn := putsJ_succ L S j
    unfold PutOwn at hO
    obtain ⟨m, hm⟩ : ∃ m, (putsJ L S j).length = m := ⟨_, rfl⟩
    rw [hm] at hO hlen ⊢
    by_cases hlt : j < 8 * q
    · obtain ⟨g, off, rfl, c0⟩ := (H1.out.1.ext hE (fun _ _ => by simp)) (j / 8) (by rw [HP.out.2.2.2.2.2.1]; omega)
      have hxb := HP.out.2.2.2.1 (j / 8) (by omega)
      obtain ⟨x, hx⟩ : ∃ x, S.getD (j / 8) 0 = x := ⟨_, rfl⟩
      rw [hx] at c0 hxb
      obtain ⟨hq1, hq2, hdw, hrw, hd0, hdq, hw1, hw2, hwj, hj1⟩ := adr_facts j q x hlt HP.out.2.2.2.2.1 hxb
      have had : adrOf S j = 8 * x + ((j % 8 : Nat) : Int) := by unfold adrOf; rw [hx]
      rw [had] at hsn
      obtain ⟨r, hr⟩ : ∃ r, ((j % 8 : Nat) : Int) = r := ⟨_, rfl⟩
      obtain ⟨d, hd⟩ : ∃ d, j / 8 = d := ⟨_, rfl⟩
      rw [hr] at hq2 hrw hw2 hsn
      rw [hd] at hq1 c0 hdw hd0 hdq
      obtain ⟨a, ha⟩ : ∃ a, 8 * x + r = a := ⟨_, rfl⟩
      rw [ha] at hw2 hsn
      have HJ := Lib.hid (And.intro hjk (And.intro hlt (And.intro hO (And.intro hE (And.intro hlen (And.intro hsn hm))))))
      clear hjk hlt hO hE hlen hsn hm hx hxb hr hd had
      rename World => W
      obtain ⟨W0, hW0⟩ : ∃ W0, W.alloc (.cells #[.int .i64 a, .int .u64 0] 41) = W0 := ⟨_, rfl⟩
      obtain ⟨pb, hpb⟩ : ∃ pb, W.heap.size = pb := ⟨_, rfl⟩
      have HE0 : Hid (Ext [] W W0) := by rw [← hW0]; exact (Ext.refl _ _).alloc _
      have HB0 : Hid (W0.heap[pb]? = some (.cells #[.int .i64 a, .int .u64 0] 41 (0, 0))) := by rw [← hW0, ← hpb]; exact World.alloc_heap_new _ _
      have z0 := cell_of (j := 0) (v := .int .i64 a) HB0.out rfl
      have z1 := cell_of (j := 1) (v := .int .u64 0) HB0.out rfl
      have z2 := free_of HB0.out 1
      have z3 : W0.setCell ⟨pb, 1, none⟩ (.int .u64 0) = W0 := setCell_same (o := 1) HB0.out rfl
      go_wp2
      try rw [hW0]
      try rw [hpb]
      have HPB := Lib.hid hpb
      clear hW0 hpb
      clear z0 z1 z2 z3 hq1 hq2 hdw hrw hw1 hd0 hdq c0 ha
      go_loopg [8, 9] n (fun cnt v i wq => ∃ i2 : Nat, v = .bool (lastW (L.take i2) a).isSome ∧ i = .int .i64 i2 ∧ i2 + cnt = n ∧ Ext [] W wq ∧ wq.heap[pb]? = some (.cells #[.int .i64 a, .int .u64 ((lastW (L.take i2) a).getD 0)] 41 (0, 0)))
      case atStart => exact ⟨0, rfl, rfl, by omega, HE0.out, HB0.out⟩
      case round =>
        obtain ⟨i2, rfl, rfl, hik, hE2, hb⟩ := hrel
        by_cases h2 : i2 < n
        · obtain ⟨b, off', rfl, e0, e1, e2⟩ := (HP.out.1.ext0 ((H1.out.2.trans HJ.out.2.2.2.1).trans hE2)).cells (i := i2) (by rw [HP.out.2.1]; exact h2)
          have hi0 : (0 : Int) ≤ (i2 : Int) := by omega
          have hi1 : (i2 : Int) < (n : Int) := by omega
          have hwi : wrap64 ((i2 : Int) + 1) = (i2 : Int) + 1 := IntWalk.wrap64_in _ (by have := HP.out.2.2.2.2.2.2; omega)
          have hts := take_snoc (L := L) (j := i2) (by rw [HP.out.2.1]; exact h2)
          obtain ⟨t, ht⟩ : ∃ t, L.getD i2 tch0 = t := ⟨_, rfl⟩
          rw [ht] at e0 e1 e2 hts
          have hls : lastW (L.take (i2 + 1)) a = if t.kd = 2 ∧ t.at' = a then some t.wd else lastW (L.take i2) a := by rw [hts, lastW_snoc]
          obtain ⟨o, ho⟩ : ∃ o, lastW (L.take i2) a = o := ⟨_, rfl⟩
          rw [ho] at hls hb ⊢
          have k0 := cell_of (j := 0) (v := .int .i64 a) hb rfl
          have k1 := cell_of (j := 1) (v := .int .u64 (o.getD 0)) hb rfl
          have f0 := free_of hb 0
          have f1 := free_of hb 1
          have HQ := Lib.hid (And.intro hik (And.intro h2 (And.intro hE2 (And.intro hb hls))))
          clear hik h2 hE2 hb hls hts ht ho
          cases g1 : (t.kd == 2) with
          | false =>
            have HF : Hid (lastW (L.take (i2 + 1)) a = o) := by
              unfold Hid
              rw [HQ.out.2.2.2.2, if_neg (fun h => by rw [h.1] at g1; cases g1)]
            go_wp2
            go_roundg (n - (i2 + 1))
            case measure => have := HQ.out.1; have := HQ.out.2.1; omega
            case rel => exact ⟨i2 + 1, by rw [HF.out], by first | (rw [hwi]; rfl) | rfl, by have := HQ.out.1; have := HQ.out.2.1; omega, HQ.out.2.2.1, by rw [HF.out]; exact HQ.out.2.2.2.1⟩
          | true =>
            cases g2 : (t.at' == a) with
            | false =>
              have HF : Hid (lastW (L.take (i2 + 1)) a = o) := by
                unfold Hid
                rw [HQ.out.2.2.2.2, if_neg (fun h => by rw [h.2] at g2; simp at g2)]
              go_wp2
              go_roundg (n - (i2 + 1))
              case measure => have := HQ.out.1; have := HQ.out.2.1; omega
              case rel => exact ⟨i2 + 1, by rw [HF.out], by first | (rw [hwi]; rfl) | rfl, by have := HQ.out.1; have := HQ.out.2.1; omega, HQ.out.2.2.1, by rw [HF.out]; exact HQ.out.2.2.2.1⟩
            | true =>
              have HF : Hid (lastW (L.take (i2 + 1)) a = some t.wd) := by
                unfold Hid
                rw [HQ.out.2.2.2.2, if_pos ⟨by simpa using g1, by simpa using g2⟩]
              go_wp2
              go_roundg (n - (i2 + 1))
              case measure => have := HQ.out.1; have := HQ.out.2.1; omega
              case rel => exact ⟨i2 + 1, by rw [HF.out]; rfl, by first | (rw [hwi]; rfl) | rfl, by have := HQ.out.1; have := HQ.out.2.1; omega, HQ.out.2.2.1.setCell (.inr (by have := HPB.out; simp; omega)) _, by rw [HF.out]; exact pair_set1 HQ.out.2.2.2.1⟩
        · have hd : ¬ ((i2 : Int) < (n : Int)) := by omega
          have hfull : L.take i2 = L := by rw [show i2 = L.length from by rw [HP.out.2.1]; omega, List.take_length]
          rw [hfull] at hb ⊢
          have hsn := HJ.out.2.2.2.2.2.1
          clear hik h2
          cases hlw : lastW L a with
          | none =>
            rw [hlw] at hsn
            have HR : Hid (PutOwn wr w1.heap.size (.slice vo m vcap) (putsJ L S (j + 1)) ∧ Ext [] w1 wr) := by
              refine ⟨?_, HJ.out.2.2.2.1.trans hE2⟩
              unfold PutOwn
              rw [hsn, List.append_nil, HJ.out.2.2.2.2.2.2]
              exact owns_ext HJ.out.2.2.1 hE2 (fun _ _ => by simp)
            clear hsn hE2 hb hlw hfull
            go_wp2
            go_roundg (8 * q - (j + 1))
            case measure => have := HJ.out.1; have := HJ.out.2.1; omega
            case rel => exact ⟨j + 1, by first | (rw [hwj]; rfl) | rfl, by have := HJ.out.1; have := HJ.out.2.1; omega, HR.out⟩
          | some u =>
            rw [hlw] at hsn hb
            have k0 := cell_of (j := 0) (v := .int .i64 a) hb rfl
            have k1 := cell_of (j := 1) (v := .int .u64 u) hb rfl
            have hb1 := World.alloc_heap_new wr (.cells #[.int .i64 a, .int .u64 u] 41)
            have HB := Lib.hid (And.intro hb1 (And.intro (hE2.alloc (.cells #[.int .i64 a, .int .u64 u] 41)) (And.intro HJ.out.2.2.2.1.size (And.intro hsn hE2.size))))
            clear hb1 hsn hE2 hb hlw hfull
            go_wp2_with (at_builtin; refine wpList_append_any rfl _ _ 34 rfl w1.heap.size 41 i0 _ 2 16 Try.underlying34 HI.out.1 HI.out.2.1 HI.out.2.2.1 HI.out.2.2.2 rfl (by omega) (.slice vo m vcap) m _ rfl (owns_ext HJ.out.2.2.1 HB.out.2.1 (fun _ _ => by simp)) (some ⟨wr.heap.size, 0, none⟩) 1 1 [.int .i64 a, .int .u64 u] rfl (put_src a u HB.out.1) ?c1 ?c2 ?c3 ?_)
            case c1 => have h1 := HJ.out.2.1; have h2 := HJ.out.2.2.2.2.1; have h3 := HP.out.2.2.2.2.1; unfold maxLen; omega
            case c2 => have h1 := HJ.out.2.1; have h2 := HJ.out.2.2.2.2.1; have h3 := HP.out.2.2.2.2.1; omega
            case c3 => have h1 := HB.out.2.2.1; have h2 := HB.out.2.2.2.2; simp; omega
            intro v1 wA ho1 hEA hbA
            have HR : Hid (PutOwn wA w1.heap.size v1 (putsJ L S (j + 1)) ∧ Ext [] w1 wA) := by
              refine ⟨?_, (HJ.out.2.2.2.1.trans HB.out.2.1).trans' hEA (fun b hb => .inr (HJ.out.2.2.1.lt b (by simpa using hb)).1)⟩
              rw [HB.out.2.2.2.1]
              exact PutOwn.snoc (a, u) HJ.out.2.2.2.2.2.2 ho1
            clear ho1 hEA hbA
            go_wp2
            go_roundg (8 * q - (j + 1))
            case measure => have := HJ.out.1; have := HJ.out.2.1; omega
            case rel => exact ⟨j + 1, by first | (rw [hwj]; rfl) | rfl, by have := HJ.out.1; have := HJ.out.2.1; omega, HR.out⟩
    · have hd : ¬ ((j : Int) < 8 * (q : Int)) := by omega
      obtain rfl : j = 8 * q := by omega
      have HR := Lib.hid (And.intro hO (And.intro hE hm))
      clear hlt hjk hO hE hlen hsn hm
      go_wp2
      go_ret
      refine ⟨_, rfl, PutOwn.low ?_ H1.out.2.size, H1.out.2.trans HR.out.2.1⟩
      unfold PutOwn
      rw [← HP.out.2.2.1, HR.out.2.2]
      exact HR.out.1
end Go.Proofs.Ytmfbgkcphiomaaa
