/- The limbo's law: num, few, works; Limbo.Free (printed by wip/mkLmI.py). -/
import Derived.Test.YtgpoplnfhlfogaaLmH
import Derived.Test.YtgpoplnfhlfogaaAlI
namespace Go.Proofs.Ytgpoplnfhlfogaa
open Go Go.RowKit Go.Shelf
attribute [local go_sem] Oper.semAt_some

theorem num15 (e : Int) (w : World) : Calls Try.prog 49 #[.int .i64 e] w fun x w' => x = .returned (.int .i64 e) ∧ w = w' := by
  go_enter Try.func49, Try.ntmps49
  go_wp2
  go_ret
  exact ⟨rfl, rfl⟩
set_option maxRecDepth 100000 in
set_option maxHeartbeats 1000000 in
theorem lm_few (ao : Option Addr) (n cap : Nat) (A : Nat → ActV) (most : Int) (w : World) (hp : Acts w ao n A) (hn : n ≤ 9223372036854775807) (hA : ∀ i, i < n → (A i).n ≤ 9223372036854775807) :
    Calls Try.prog 40 #[.slice ao n cap, .int .i64 most] w fun e w' => e = .returned (.bool (fewB n A most)) ∧ w = w' := by
  have HP := Lib.hid hp
  have HA := Lib.hid hA
  clear hp hA
  go_enter Try.func40, Try.ntmps40
  go_wp2
  go_loopg [5] n (fun k i wr => ∃ j : Nat, i = .int .i64 j ∧ j + k = n ∧ w = wr ∧ ∀ i, i < j → (A i).n ≤ 20)
  case atStart => exact ⟨0, rfl, by omega, rfl, fun i hi => absurd hi (Nat.not_lt_zero _)⟩
  case round =>
    obtain ⟨j, rfl, hjk, rfl, hall⟩ := hrel
    have HR := Lib.hid hall
    clear hall
    by_cases hlt : j < n
    · obtain ⟨b, off, rfl, k1⟩ : ∃ b off, ao = some ⟨b, off, none⟩ ∧ w.cell? ⟨b, off + j * 3 + 2, none⟩ = some (.slice (A j).bo (A j).n (A j).cap) := by
        rcases HP.out with h | ⟨b, off, h1, h2⟩
        · omega
        · exact ⟨b, off, h1, (h2 j hlt).2.2.1⟩
      have hAj := HA.out j hlt
      obtain ⟨a, ha⟩ : ∃ a, a = (A j).n := ⟨_, rfl⟩
      rw [← ha] at k1 hAj
      have HAJ := Lib.hid ha
      clear ha
      by_cases hbig : a ≤ 20
      · go_wp2
        go_roundg (n - (j + 1))
        case measure => omega
        case rel =>
          refine ⟨j + 1, by go_num, by omega, rfl, fun i hi => ?_⟩
          rcases Nat.lt_succ_iff_lt_or_eq.1 hi with h | h
          · exact HR.out i h
          · rw [h, ← HAJ.out]; exact hbig
      · have HF := Lib.hid (fewB_false (most := most) hlt (show 20 < (A j).n by rw [← HAJ.out]; omega))
        go_wp2
        go_ret
        exact ⟨ret_bool HF.out, rfl⟩
    · have hge : n ≤ j := by omega
      have HF := Lib.hid (fewB_all (n := n) (A := A) (most := most) (fun i hi => HR.out i (by omega)))
      go_wp2
      go_ret
      exact ⟨ret_bool HF.out, rfl⟩

set_option maxRecDepth 100000 in
set_option maxHeartbeats 2000000 in
theorem lm_Free (b c m p mb : Nat) (lo : Int) (n : Nat) (now : Int) (l : Ents) (S : Lns) (G : Nat → List Int) (ga : Nat → Option Addr) (gc : Nat → Nat) (w : World) (h : LimAt w b c m p mb lo n now l S G ga gc) (hlo : -1000000000 ≤ lo ∧ lo + n ≤ 1000000000) :
    Calls Try.prog 60 #[.pointer (some ⟨b, 0, none⟩)] w fun e w' => e = .returned (.int .i64 (thoseL S false lo n).length) ∧ Ext [] w w' := by
  obtain ⟨W, hW⟩ : ∃ W, w.alloc (.cells #[.pointer (some ⟨b, 0, none⟩)] 76) = W := ⟨_, rfl⟩
  have hE : Ext [] w W := by rw [← hW]; exact (Ext.refl _ _).alloc _
  have hb1 : W.heap[w.heap.size]? = some (.cells #[.pointer (some ⟨b, 0, none⟩)] 76 (0, 0)) := by rw [← hW]; exact World.alloc_heap_new _ _
  have hL := h.ext0 hE
  have hcf := enters_of Try.func104 (by kernel_rfl) rfl
  have k1 := cell_of (j := 0) (v := .pointer (some ⟨b, 0, none⟩)) hb1 rfl
  have k2 := cell_of (j := 1) (v := .pointer (some ⟨p, 0, none⟩)) hL.blk rfl
  obtain ⟨N, hN⟩ : ∃ N, (thoseL S false lo n).length = N := ⟨_, rfl⟩
  have HF := Lib.hid (al_Free p mb lo n S W hlo.1 hlo.2 hL.pool)
  rw [hN] at HF ⊢
  have HK : Hid (Calls Try.prog 104 #[.pointer (some ⟨w.heap.size, 0, none⟩)] W fun e w' => ∃ v u, e = .returned (.tuple #[v, u]) ∧ (v = .int .i64 N ∧ Ext [] W w')) := by
    clear hb1 hL hE h hW hN
    go_enter Try.func104, Try.ntmps104
    go_wp2_with fail
    refine HF.out.mono ?_
    rintro e w' ⟨rfl, hE1⟩
    have HE1 := Lib.hid hE1
    clear hE1
    go_wp2
    go_ret2
    exact ⟨_, _, rfl, rfl, HE1.out⟩
  have HA := Lib.hid (lm_askedI b 104 #[.pointer (some ⟨w.heap.size, 0, none⟩)] W (fun v u w' => v = .int .i64 N ∧ Ext [] W w') (lm_none b c m p mb lo n now l S G ga gc W hL) (hcf _) HK.out)
  have HE := Lib.hid hE
  clear hb1 hL hE h hN k2 HF HK
  go_enter Try.func60, Try.ntmps60
  go_wp2_with fail
  try rw [hW]
  clear hW
  refine HA.out.mono ?_
  rintro e w' ⟨v, u, rfl, rfl, hE1⟩
  have HE1 := Lib.hid hE1
  clear hE1
  go_wp2
  go_ret
  exact ⟨rfl, HE.out.trans HE1.out⟩
end Go.Proofs.Ytgpoplnfhlfogaa
