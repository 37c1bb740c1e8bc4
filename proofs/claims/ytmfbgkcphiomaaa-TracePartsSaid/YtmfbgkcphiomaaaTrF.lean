/- Package trace: Closed. -/
import Derived.Test.YtmfbgkcphiomaaaTrE
namespace Go.Proofs.Ytmfbgkcphiomaaa
open Go Go.RowKit Go.Shelf
attribute [local go_sem] Oper.semAt_some

theorem TcOwn.snoc {w : World} {base n : Nat} {v : Value} {L : List Tch} (t : Tch) (hn : L.length = n) (h : w.ownsRow base 45 3 v (n + 1) (rowC (tR L) n ++ tchR t)) : TcOwn w base v (L ++ [t]) := by
  subst hn
  unfold TcOwn
  rw [tR_append, List.length_append]
  exact h
theorem TcOwn.nil (w : World) (base : Nat) : TcOwn w base (.slice none 0 0) [] := World.ownsRow_nil _ _ _ _
theorem TcOwn.ext {w w' : World} {base : Nat} {v : Value} {L : List Tch} (h : TcOwn w base v L) (hE : Ext [] w w') : TcOwn w' base v L := owns_ext h hE (fun _ _ => by simp)
theorem TcOwn.low {w : World} {base base' : Nat} {v : Value} {L : List Tch} (h : TcOwn w base v L) (hb : base' ≤ base) : TcOwn w base' v L := owns_base h hb
theorem closedT_len (L : List Tch) : (closedT L).length = L.length + (storedL L).length + 1 := by
  unfold closedT
  simp [Nat.add_assoc]
theorem storedL_wf (L : List Tch) : ∀ k ∈ storedL L, (Lit.int .i64 k).wf = true := fun k hk => by
  have := mem_upto.1 hk
  simp [Lit.wf, IntKind.min, IntKind.max, IntKind.signed, IntKind.bits]
  omega
/-- what Closed answers -/
def clo (L : List Tch) : List Tch × Int := if tcheck L = 0 then closedL L else ([], tcheck L)
/-- the list, and what is wrong -/
def CloPost (w : World) (C : List Tch × Int) (e : Ending) (w' : World) : Prop := ∃ v, e = .returned (.tuple #[v, .int .i64 C.2]) ∧ Ext [] w w' ∧ TcOwn w' w.heap.size v C.1
/-- the list with the flushes of the first j of its lines behind it -/
def flT (L : List Tch) (S : List Int) (j : Nat) : List Tch := L ++ (S.take j).map (fun k => (⟨3, k, 0⟩ : Tch))
theorem flush_zero (L : List Tch) (S : List Int) : flT L S 0 = L := by unfold flT; simp
theorem flush_all {L : List Tch} {S : List Int} {j : Nat} (hS : storedL L = S) (hj : S.length = j) : closedT L = flT L S j ++ [⟨4, 0, 0⟩] := by
  unfold closedT flT
  rw [hS, ← hj, List.take_length]
theorem flush_len (L : List Tch) {S : List Int} {j : Nat} (h : j ≤ S.length) : (flT L S j).length = L.length + j := by
  unfold flT
  rw [List.length_append, List.length_map, List.length_take]
  omega
theorem flush_snoc {S : List Int} {L : List Tch} {j : Nat} (h : j < S.length) : flT L S (j + 1) = flT L S j ++ [⟨3, S.getD j 0, 0⟩] := by
  unfold flT
  rw [List.take_succ_eq_append_getElem h, List.map_append, ← List.append_assoc, show S.getD j 0 = S[j] from by simp [h]]
  rfl
theorem tch_src {w : World} {B : Nat} (t : Tch) (h : w.heap[B]? = some (.cells #[.int .i64 t.kd, .int .i64 t.at', .int .u64 t.wd] 45 (0, 0))) : RowSrc w (some ⟨B, 0, none⟩) 1 3 (tchR t) := by
  have := (TcAt.lit (N := 0) (L := [t]) h).src
  exact this

set_option maxRecDepth 100000 in
set_option maxHeartbeats 4000000 in
theorem tr_Closed (N : Nat) (ao : Option Addr) (cap : Nat) (L : List Tch) (w : World) (hp : TcAt w N ao L) (hn : L.length ≤ 1000000) :
    Calls Try.prog 11 #[.slice ao L.length cap] w (CloPost w (clo L)) := by
  have HC := Lib.hid (tc_Check N ao cap L w hp (by omega))
  unfold clo
  by_cases hc : tcheck L = 0
  · obtain ⟨hr, hl⟩ := tcheck_zero hc
    have HK := Lib.hid (fun W (hE : Ext [] w W) => tc_clone N ao cap L W (hp.ext0 hE) hn)
    have HO := Lib.hid (fun W (hE : Ext [] w W) => tr_Orderly N ao cap L W (hp.ext0 hE) (by omega))
    have HL := Lib.hid (fun W (hE : Ext [] w W) => tr_lines N ao cap L W (hp.ext0 hE) (by omega) hr)
    rw [hc] at HC HO
    rw [if_pos hc]
    have HR := Lib.hid hr
    obtain ⟨S, hS⟩ : ∃ S, storedL L = S := ⟨_, rfl⟩
    obtain ⟨q, hq⟩ : ∃ q, S.length = q := ⟨_, rfl⟩
    have hSl : q ≤ 1024 := by rw [← hq, ← hS]; exact upto_len _ _
    have hwf := storedL_wf L
    rw [hS] at hwf
    have hct : closedT L = flT L S q ++ [⟨4, 0, 0⟩] := flush_all hS hq
    obtain ⟨n, hnl⟩ : ∃ n, L.length = n := ⟨_, rfl⟩
    have HN := Lib.hid (And.intro hnl (And.intro hS (And.intro hct hwf)))
    rw [hnl] at hn hl HK HO HL HC ⊢
    unfold closedL
    cases hor : ordL L with
    | true =>
      rw [hor] at HO
      rw [if_pos rfl]
      clear hp hr hc hor hct hwf hS hnl hSl hl hn hq
      go_enter Try.func11, Try.ntmps11
      go_wp2_with fail
      refine HC.out.mono ?_
      rintro e w1 ⟨rfl, hE1⟩
      go_wp2_with fail
      refine (HK.out w1 hE1).mono ?_
      rintro e w2 ⟨v2, rfl, hE2, hO2⟩
      go_wp2_with fail
      refine (HO.out w2 (hE1.trans hE2)).mono ?_
      rintro e w3 ⟨rfl, hE3⟩
      have HF := Lib.hid (And.intro ((hE1.trans hE2).trans hE3) ((hO2.ext hE3).low hE1.size))
      clear hE1 hE2 hE3 hO2
      go_wp2
      go_ret2
      exact ⟨_, rfl, HF.out.1, HF.out.2⟩
    | false =>
      rw [hor] at HO
      rw [if_neg (by decide)]
      obtain ⟨C, hC⟩ : ∃ C, (if 4096 < (closedT L).length then (([] : List Tch), (3 : Int)) else (closedT L, 0)) = C := ⟨_, rfl⟩
      rw [hC]
      have HCC := Lib.hid hC
      clear hC
      have hcl : (closedT L).length = n + q + 1 := by rw [closedT_len, hS, hnl, hq]
      have HSL := Lib.hid (And.intro hSl (And.intro hl hcl))
      have HQ := Lib.hid hq
      obtain ⟨i0, hi, hz0, hz1, hz2⟩ := info_parts infoTch
      have HI := Lib.hid (And.intro hi (And.intro hz0 (And.intro hz1 hz2)))
      clear hp hr hc hor hct hwf hS hnl hSl hl hn hi hz0 hz1 hz2 hcl hq
      go_enter Try.func11, Try.ntmps11
      go_wp2_with fail
      refine HC.out.mono ?_
      rintro e w1 ⟨rfl, hE1⟩
      go_wp2_with fail
      refine (HK.out w1 hE1).mono ?_
      rintro e w2 ⟨v2, rfl, hE2, hO2⟩
      have hE2' := hE1.trans hE2
      have hO2' := hO2.low hE1.size
      clear hE1 hE2 hO2
      go_wp2_with fail
      refine (HO.out w2 hE2').mono ?_
      rintro e w3 ⟨rfl, hE3⟩
      have hE3' := hE2'.trans hE3
      have hO3 := hO2'.ext hE3
      clear hE2' hE3 hO2'
      go_wp2_with fail
      refine (HL.out w3 hE3').mono ?_
      rintro e w4 ⟨rfl, hE4, l, hm, hle⟩
      have hsk : sortK l = S := by rw [hle.sort hm.nodup HR.out, HN.out.2.1]
      have hll : l.length = q := by rw [← sortK_len, hsk, HQ.out]
      have HS2 := Lib.hid (tr_sortedA w3.heap.size l w4 hm (by rw [hll]; have := HSL.out.1; omega) (fun p hp => HN.out.2.2.2 _ (by rw [← hsk]; exact (sortK_perm l).mem_iff.2 (List.mem_map.2 ⟨p, hp, rfl⟩))))
      rw [hsk, HQ.out] at HS2
      have hE4' := hE3'.trans hE4
      have hO4 := hO3.ext hE4
      clear hE3' hE4 hO3 hm hle hsk hll
      go_wp2_with fail
      refine HS2.out.mono ?_
      rintro e w5 ⟨bo, bcap, rfl, hI5, hE5, hb5⟩
      have H5 := Lib.hid (And.intro (hE4'.trans hE5) (And.intro (hO4.ext hE5) (And.intro hI5 (show ∀ p, bo = some p → p.block < w5.heap.size ∧ ∀ g, v2.ownBlock = some g → g ≠ p.block from fun p hp => ⟨(hb5 p hp).2, fun g hg => by
        have h1 := (hb5 p hp).1
        have h2 := (World.ownsRow.lt hO4 g hg).2
        omega⟩))))
      clear hE4' hO4 hI5 hE5 hb5
      go_wp2
      go_loopg [5, 22] q (fun cnt v i wr => ∃ j : Nat, i = .int .i64 j ∧ j + cnt = q ∧ TcOwn wr w.heap.size v (flT L S j) ∧ Ext [] w wr ∧ IntsAt wr bo S ∧ (∀ p, bo = some p → p.block < wr.heap.size ∧ ∀ g, v.ownBlock = some g → g ≠ p.block))
      case atStart => exact ⟨0, rfl, by omega, by rw [flush_zero]; exact H5.out.2.1, H5.out.1, H5.out.2.2.1, H5.out.2.2.2⟩
      case round =>
        obtain ⟨j, rfl, hjk, hO, hE, hI, hA⟩ := hrel
        obtain ⟨vo, vcap, rfl, hT, hle, hge⟩ := hO.at (N := w.heap.size)
        have hol : (flT L S j).length = n + j := by rw [flush_len L (by rw [HQ.out]; omega), HN.out.1]
        have hO2 := hO
        unfold TcOwn at hO2
        rw [hol] at hO2 hA hle ⊢
        have HO' := Lib.hid (And.intro hO2 (And.intro hE (And.intro hI hA)))
        clear hO hT hge hO2 hI hA
        have hsz := hE.size
        by_cases hlt : j < q
        · obtain ⟨g, off, rfl, c0⟩ := HO'.out.2.2.1 j (by rw [HQ.out]; exact hlt)
          have hjn : (j : Int) < (q : Int) := by omega
          have hj0 : (0 : Int) ≤ (j : Int) := by omega
          have hwj : wrap64 ((j : Int) + 1) = (j : Int) + 1 := IntWalk.wrap64_in _ (by have := HSL.out.1; omega)
          obtain ⟨x, hx⟩ : ∃ x, S.getD j 0 = x := ⟨_, rfl⟩
          have hsn := flush_snoc (S := S) (L := L) (j := j) (by rw [HQ.out]; exact hlt)
          rw [hx] at c0 hsn
          have HJ := Lib.hid (And.intro hjk (And.intro hlt (And.intro hsn (And.intro hsz hol))))
          clear hjk hlt hsn hx hE hol hsz hle
          have hb1 := World.alloc_heap_new wr (.cells #[.int .i64 3, .int .i64 x, .int .u64 0] 45)
          have HB := Lib.hid (And.intro hb1 ((Ext.refl [] wr).alloc (.cells #[.int .i64 3, .int .i64 x, .int .u64 0] 45)))
          clear hb1
          go_wp2_with (at_builtin; refine wpList_append_any rfl _ _ 22 rfl w.heap.size 45 i0 _ 3 24 Try.underlying22 HI.out.1 HI.out.2.1 HI.out.2.2.1 HI.out.2.2.2 rfl (by omega) (.slice vo (n + j) vcap) (n + j) _ rfl (owns_ext HO'.out.1 HB.out.2 (fun _ _ => by simp)) (some ⟨wr.heap.size, 0, none⟩) 1 1 (tchR ⟨3, x, 0⟩) rfl (tch_src ⟨3, x, 0⟩ HB.out.1) ?c1 ?c2 ?c3 ?_)
          case c1 => have h1 := HSL.out.1; have h2 := HSL.out.2.1; have h3 := HJ.out.2.1; unfold maxLen; omega
          case c2 => have h1 := HSL.out.1; have h2 := HSL.out.2.1; have h3 := HJ.out.2.1; omega
          case c3 => have h1 := HJ.out.2.2.2.1; simp; omega
          intro v1 wA ho1 hEA hbA
          have HR : Hid (TcOwn wA w.heap.size v1 (flT L S (j + 1)) ∧ Ext [] w wA ∧ IntsAt wA (some ⟨g, off, none⟩) S ∧ (∀ p, some (⟨g, off, none⟩ : Addr) = some p → p.block < wA.heap.size ∧ ∀ g, v1.ownBlock = some g → g ≠ p.block)) := by
            obtain ⟨h1, h2, h3, h4⟩ := HO'.out
            have h5 := h2.trans HB.out.2
            have hz := hEA.size
            simp only [World.size_alloc] at hz
            refine ⟨?_, h5.trans' hEA (fun b hb => .inr (h1.lt b (by simpa using hb)).1), (h3.ext HB.out.2 (fun _ _ => by simp)).ext hEA (fun p hp hm => (h4 p hp).2 _ (by simpa using hm) rfl), fun p hp => ⟨by have := (h4 p hp).1; omega, fun b hb => ?_⟩⟩
            · rw [HJ.out.2.2.1]
              exact TcOwn.snoc ⟨3, x, 0⟩ HJ.out.2.2.2.2 ho1
            · rcases hbA b hb with h | h
              · exact (h4 p hp).2 b h
              · have := (h4 p hp).1
                try simp only [World.size_alloc] at h
                omega
          clear ho1 hEA hbA
          go_wp2
          go_roundg (q - (j + 1))
          case measure => have := HJ.out.1; have := HJ.out.2.1; omega
          case rel => exact ⟨j + 1, by first | (rw [hwj]; rfl) | rfl, by have := HJ.out.1; have := HJ.out.2.1; omega, HR.out⟩
        · have hd : decide (j < q) = false := by simpa using hlt
          have hjn : ¬ ((j : Int) < (q : Int)) := by omega
          obtain rfl : j = q := by omega
          have hb1 := World.alloc_heap_new wr (.cells #[.int .i64 4, .int .i64 0, .int .u64 0] 45)
          have HB := Lib.hid (And.intro hb1 (And.intro ((Ext.refl [] wr).alloc (.cells #[.int .i64 4, .int .i64 0, .int .u64 0] 45)) (And.intro hol hsz)))
          clear hb1 hol hE hsz hjk hle hlt
          go_wp2_with (at_builtin; refine wpList_append_any rfl _ _ 22 rfl w.heap.size 45 i0 _ 3 24 Try.underlying22 HI.out.1 HI.out.2.1 HI.out.2.2.1 HI.out.2.2.2 rfl (by omega) (.slice vo (n + j) vcap) (n + j) _ rfl (owns_ext HO'.out.1 HB.out.2.1 (fun _ _ => by simp)) (some ⟨wr.heap.size, 0, none⟩) 1 1 (tchR ⟨4, 0, 0⟩) rfl (tch_src ⟨4, 0, 0⟩ HB.out.1) ?c1 ?c2 ?c3 ?_)
          case c1 => have h1 := HSL.out.1; have h2 := HSL.out.2.1; unfold maxLen; omega
          case c2 => have h1 := HSL.out.1; have h2 := HSL.out.2.1; omega
          case c3 => have h1 := HB.out.2.2.2; simp; omega
          intro v1 wA ho1 hEA hbA
          have hT1 : TcOwn wA w.heap.size v1 (closedT L) := by
            rw [HN.out.2.2.1]
            exact TcOwn.snoc ⟨4, 0, 0⟩ HB.out.2.2.1 ho1
          obtain ⟨uo, ucap, rfl, _⟩ := hT1.at (N := w.heap.size)
          rw [HSL.out.2.2] at hT1 ⊢
          have HR := Lib.hid (And.intro hT1 ((HO'.out.2.1.trans HB.out.2.1).trans' hEA (fun b hb => .inr (HO'.out.1.lt b (by simpa using hb)).1)))
          clear ho1 hEA hbA hT1
          by_cases hbig : 4096 < n + j + 1
          · have hd : ((4096 : Int) < ((n + j + 1 : Nat) : Int)) := by omega
            have hC : C = ([], 3) := by rw [← HCC.out, HSL.out.2.2, if_pos hbig]
            subst hC
            clear hbig
            go_wp2
            go_ret2
            exact ⟨_, rfl, HR.out.2, TcOwn.nil _ _⟩
          · have hd : ¬ ((4096 : Int) < ((n + j + 1 : Nat) : Int)) := by omega
            have hC : C = (closedT L, 0) := by rw [← HCC.out, HSL.out.2.2, if_neg hbig]
            subst hC
            clear hbig
            go_wp2
            go_ret2
            exact ⟨_, rfl, HR.out.2, HR.out.1⟩
  · rw [if_neg hc]
    have g : (tcheck L != 0) = true := by simpa using hc
    generalize tcheck L = c at *
    generalize L.length = n at *
    clear hp hc hn
    go_enter Try.func11, Try.ntmps11
    go_wp2_with fail
    refine HC.out.mono ?_
    rintro e w1 ⟨rfl, hE⟩
    go_wp2
    go_ret2
    exact ⟨_, rfl, hE, TcOwn.nil _ _⟩
end Go.Proofs.Ytmfbgkcphiomaaa
