/- The document's Closed. -/
import Derived.Test.YtmfbgkcphiomaaaTrH
namespace Go.Proofs.Ytmfbgkcphiomaaa
open Go Go.RowKit Go.Shelf
attribute [local go_sem] Oper.semAt_some

set_option maxRecDepth 100000 in
set_option maxHeartbeats 4000000 in
theorem ts_Closed (N : Nat) (ao : Option Addr) (cap : Nat) (L : List Tch) (w : World) (hp : TcAt w N ao L) (hn : L.length ≤ 4096) (hr : ∀ t ∈ L, t.right = true) :
    Calls Try.prog 15 #[.slice ao L.length cap] w (CloPost w (closedL L)) := by
  have HO := Lib.hid (fun W (hE : Ext [] w W) => ts_Orderly N ao cap L W (hp.ext0 hE) (by omega) hr)
  have HL := Lib.hid (fun W (hE : Ext [] w W) => ts_stored N ao cap L W (hp.ext0 hE) (by omega) hr)
  have HP := Lib.hid hp.src
  obtain ⟨S, hS⟩ : ∃ S, storedL L = S := ⟨_, rfl⟩
  obtain ⟨q, hq⟩ : ∃ q, S.length = q := ⟨_, rfl⟩
  have hSl : q ≤ 1024 := by rw [← hq, ← hS]; exact upto_len _ _
  have hct : closedT L = flT L S q ++ [⟨4, 0, 0⟩] := flush_all hS hq
  obtain ⟨n, hnl⟩ : ∃ n, L.length = n := ⟨_, rfl⟩
  have HN := Lib.hid (And.intro hnl (And.intro hS hct))
  have hcl : (closedT L).length = n + q + 1 := by rw [closedT_len, hS, hnl, hq]
  rw [hnl] at hn HO HL HP ⊢
  rw [hS] at HL
  obtain ⟨C, hC⟩ : ∃ C, closedL L = C := ⟨_, rfl⟩
  rw [hC]
  unfold closedL at hC
  obtain ⟨i0, hi, hz0, hz1, hz2⟩ := info_parts infoTch
  have HI := Lib.hid (And.intro hi (And.intro hz0 (And.intro hz1 hz2)))
  have HSL := Lib.hid (And.intro hSl (And.intro hn hcl))
  have HQ := Lib.hid hq
  have hnn : TcOwn w w.heap.size (.slice none 0 0) [] := TcOwn.nil _ _
  have HNN := Lib.hid hnn
  clear hp hr hct hS hnl hSl hn hi hz0 hz1 hz2 hcl hq hnn
  obtain ⟨o, hor⟩ : ∃ o, ordL L = o := ⟨_, rfl⟩
  rw [hor] at HO hC
  have HCC := Lib.hid hC
  clear hC hor
  go_enter Try.func15, Try.ntmps15
  go_wp2_with (at_builtin; refine wpList_append_any rfl _ _ 22 rfl w.heap.size 45 i0 _ 3 24 Try.underlying22 HI.out.1 HI.out.2.1 HI.out.2.2.1 HI.out.2.2.2 rfl (by omega) (.slice none 0 0) 0 [] rfl HNN.out ao n cap (rowC (tR L) n) rfl HP.out ?c1 ?c2 (Nat.le_refl _) ?_)
  case c1 => have h2 := HSL.out.2.1; unfold maxLen; omega
  case c2 => have h2 := HSL.out.2.1; omega
  intro v2 w2 ho2 hE2 _
  have hE2' : Ext [] w w2 := hE2.mono (fun j hj => by simp [Value.ownBlock] at hj)
  have hO2' : TcOwn w2 w.heap.size v2 L := by
    unfold TcOwn
    rw [HN.out.1]
    simpa using ho2
  clear ho2 hE2
  go_wp2_with fail
  refine (HO.out w2 hE2').mono ?_
  rintro e w3 ⟨rfl, hE3⟩
  have hE3' := hE2'.trans hE3
  have hO3 := hO2'.ext hE3
  clear hE2' hE3 hO2'
  cases o with
  | true =>
    have hC : C = (L, 0) := by have := HCC.out; rw [if_pos rfl] at this; exact this.symm
    subst hC
    have HF := Lib.hid (And.intro hE3' hO3)
    clear hE3' hO3
    go_wp2
    go_ret2
    exact ⟨_, rfl, HF.out.1, HF.out.2⟩
  | false =>
    go_wp2_with fail
    refine (HL.out w3 hE3').mono ?_
    rintro e w5 ⟨vs, rfl, hI, hE5⟩
    obtain ⟨bo, bcap, rfl, hI5, hb5⟩ := hI.at
    rw [HQ.out]
    have H5 := Lib.hid (And.intro (hE3'.trans hE5) (And.intro (hO3.ext hE5) (And.intro hI5 (show ∀ p, bo = some p → p.block < w5.heap.size ∧ ∀ g, v2.ownBlock = some g → g ≠ p.block from fun p hp => ⟨(hb5 p hp).2, fun g hg => by
      have h1 := (hb5 p hp).1
      have h2 := (World.ownsRow.lt hO3 g hg).2
      omega⟩))))
    clear hE3' hO3 hI5 hI hE5 hb5
    go_wp2
    go_loopg [4, 6] q (fun cnt v i wr => ∃ j : Nat, i = .int .i64 j ∧ j + cnt = q ∧ TcOwn wr w.heap.size v (flT L S j) ∧ Ext [] w wr ∧ IntsAt wr bo S ∧ (∀ p, bo = some p → p.block < wr.heap.size ∧ ∀ g, v.ownBlock = some g → g ≠ p.block))
    case atStart => exact ⟨0, rfl, by omega, by rw [flush_zero]; exact H5.out.2.1, H5.out.1, H5.out.2.2.1, H5.out.2.2.2⟩
    case round =>
      obtain ⟨j, rfl, hjk, hO, hE, hI, hA⟩ := hrel
      obtain ⟨vo, vcap, rfl, hT, hle, hge⟩ := hO.at (N := w.heap.size)
      have hol : (flT L S j).length = n + j := by rw [flush_len L (by rw [HQ.out]; omega), HN.out.1]
      have hO2 := hO
      unfold TcOwn at hO2
      rw [hol] at hO2 hA hle ⊢
      have HO' := Lib.hid (And.intro hO2 (And.intro hE (And.intro hI hA)))
      clear hO hT hge hO2 hI hA
      have hsz := hE.size
      by_cases hlt : j < q
      · obtain ⟨g, off, rfl, c0⟩ := HO'.out.2.2.1 j (by rw [HQ.out]; exact hlt)
        have hjn : (j : Int) < (q : Int) := by omega
        have hj0 : (0 : Int) ≤ (j : Int) := by omega
        have hwj : wrap64 ((j : Int) + 1) = (j : Int) + 1 := IntWalk.wrap64_in _ (by have := HSL.out.1; omega)
        obtain ⟨x, hx⟩ : ∃ x, S.getD j 0 = x := ⟨_, rfl⟩
        have hsn := flush_snoc (S := S) (L := L) (j := j) (by rw [HQ.out]; exact hlt)
        rw [hx] at c0 hsn
        have HJ := Lib.hid (And.intro hjk (And.intro hlt (And.intro hsn (And.intro hsz hol))))
        clear hjk hlt hsn hx hE hol hsz hle
        have hb1 := World.alloc_heap_new wr (.cells #[.int .i64 3, .int .i64 x, .int .u64 0] 45)
        have HB := Lib.hid (And.intro hb1 ((Ext.refl [] wr).alloc (.cells #[.int .i64 3, .int .i64 x, .int .u64 0] 45)))
        clear hb1
        go_wp2_with (at_builtin; refine wpList_append_any rfl _ _ 22 rfl w.heap.size 45 i0 _ 3 24 Try.underlying22 HI.out.1 HI.out.2.1 HI.out.2.2.1 HI.out.2.2.2 rfl (by omega) (.slice vo (n + j) vcap) (n + j) _ rfl (owns_ext HO'.out.1 HB.out.2 (fun _ _ => by simp)) (some ⟨wr.heap.size, 0, none⟩) 1 1 (tchR ⟨3, x, 0⟩) rfl (tch_src ⟨3, x, 0⟩ HB.out.1) ?c1 ?c2 ?c3 ?_)
        case c1 => have h1 := HSL.out.1; have h2 := HSL.out.2.1; have h3 := HJ.out.2.1; unfold maxLen; omega
        case c2 => have h1 := HSL.out.1; have h2 := HSL.out.2.1; have h3 := HJ.out.2.1; omega
        case c3 => have h1 := HJ.out.2.2.2.1; simp; omega
        intro v1 wA ho1 hEA hbA
        have HR : Hid (TcOwn wA w.heap.size v1 (flT L S (j + 1)) ∧ Ext [] w wA ∧ IntsAt wA (some ⟨g, off, none⟩) S ∧ (∀ p, some (⟨g, off, none⟩ : Addr) = some p → p.block < wA.heap.size ∧ ∀ g, v1.ownBlock = some g → g ≠ p.block)) := by
          obtain ⟨h1, h2, h3, h4⟩ := HO'.out
          have h5 := h2.trans HB.out.2
          have hz := hEA.size
          simp only [World.size_alloc] at hz
          refine ⟨?_, h5.trans' hEA (fun b hb => .inr (h1.lt b (by simpa using hb)).1), (h3.ext HB.out.2 (fun _ _ => by simp)).ext hEA (fun p hp hm => (h4 p hp).2 _ (by simpa using hm) rfl), fun p hp => ⟨by have := (h4 p hp).1; omega, fun b hb => ?_⟩⟩
          · rw [HJ.out.2.2.1]
            exact TcOwn.snoc ⟨3, x, 0⟩ HJ.out.2.2.2.2 ho1
          · rcases hbA b hb with h | h
            · exact (h4 p hp).2 b h
            · have := (h4 p hp).1
              try simp only [World.size_alloc] at h
              omega
        clear ho1 hEA hbA
        go_wp2
        go_roundg (q - (j + 1))
        case measure => have := HJ.out.1; have := HJ.out.2.1; omega
        case rel => exact ⟨j + 1, by first | (rw [hwj]; rfl) | rfl, by have := HJ.out.1; have := HJ.out.2.1; omega, HR.out⟩
      · have hd : decide (j < q) = false := by simpa using hlt
        have hjn : ¬ ((j : Int) < (q : Int)) := by omega
        obtain rfl : j = q := by omega
        have hb1 := World.alloc_heap_new wr (.cells #[.int .i64 4, .int .i64 0, .int .u64 0] 45)
        have HB := Lib.hid (And.intro hb1 (And.intro ((Ext.refl [] wr).alloc (.cells #[.int .i64 4, .int .i64 0, .int .u64 0] 45)) (And.intro hol hsz)))
        clear hb1 hol hE hsz hjk hle hlt
        go_wp2_with (at_builtin; refine wpList_append_any rfl _ _ 22 rfl w.heap.size 45 i0 _ 3 24 Try.underlying22 HI.out.1 HI.out.2.1 HI.out.2.2.1 HI.out.2.2.2 rfl (by omega) (.slice vo (n + j) vcap) (n + j) _ rfl (owns_ext HO'.out.1 HB.out.2.1 (fun _ _ => by simp)) (some ⟨wr.heap.size, 0, none⟩) 1 1 (tchR ⟨4, 0, 0⟩) rfl (tch_src ⟨4, 0, 0⟩ HB.out.1) ?c1 ?c2 ?c3 ?_)
        case c1 => have h1 := HSL.out.1; have h2 := HSL.out.2.1; unfold maxLen; omega
        case c2 => have h1 := HSL.out.1; have h2 := HSL.out.2.1; omega
        case c3 => have h1 := HB.out.2.2.2; simp; omega
        intro v1 wA ho1 hEA hbA
        have hT1 : TcOwn wA w.heap.size v1 (closedT L) := by
          rw [HN.out.2.2]
          exact TcOwn.snoc ⟨4, 0, 0⟩ HB.out.2.2.1 ho1
        obtain ⟨uo, ucap, rfl, _⟩ := hT1.at (N := w.heap.size)
        rw [HSL.out.2.2] at hT1 ⊢
        have HR := Lib.hid (And.intro hT1 ((HO'.out.2.1.trans HB.out.2.1).trans' hEA (fun b hb => .inr (HO'.out.1.lt b (by simpa using hb)).1)))
        clear ho1 hEA hbA hT1
        by_cases hbig : 4096 < n + j + 1
        · have hd : ((4096 : Int) < ((n + j + 1 : Nat) : Int)) := by omega
          have hC : C = ([], 3) := by have := HCC.out; rw [if_neg (by decide), HSL.out.2.2, if_pos hbig] at this; exact this.symm
          subst hC
          clear hbig
          go_wp2
          go_ret2
          exact ⟨_, rfl, HR.out.2, TcOwn.nil _ _⟩
        · have hd : ¬ ((4096 : Int) < ((n + j + 1 : Nat) : Int)) := by omega
          have hC : C = (closedT L, 0) := by have := HCC.out; rw [if_neg (by decide), HSL.out.2.2, if_neg hbig] at this; exact this.symm
          subst hC
          clear hbig
          go_wp2
          go_ret2
          exact ⟨_, rfl, HR.out.2, HR.out.1⟩
end Go.Proofs.Ytmfbgkcphiomaaa
