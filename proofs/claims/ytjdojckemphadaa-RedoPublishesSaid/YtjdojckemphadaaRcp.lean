/- The document's Check, Of, More and Pack of records: what they answer. -/
import Derived.Test.YtjdojckemphadaaRcM
import Derived.Test.YtjdojckemphadaaRcz
import Derived.BigRegion
namespace Go.Proofs.Ytjdojckemphadaa
open Go Go.RowKit

theorem seenN_le {L : Nat → Int × Int} {x : Int} {n : Nat} : ∀ {j : Nat}, j ≤ n → seenN L j x = true → seenN L n x = true := by
  induction n with
  | zero => intro j hj h; rwa [show j = 0 from by omega] at h
  | succ n ih =>
    intro j hj h
    by_cases hjn : j = n + 1
    · rwa [hjn] at h
    · simp only [seenN, ih (show j ≤ n by omega) h, Bool.true_or]

set_option maxRecDepth 100000 in
set_option maxHeartbeats 4000000 in
theorem ref_check (ao : Option Addr) (n cap : Nat) (L : Nat → Int × Int) (w : World) (hp : Puts w ao n L) (hn : n ≤ 9223372036854775807) :
    Calls Try.prog 22 #[.slice ao n cap] w (ChkPost w L n) := by
  have HP := Lib.hid hp
  clear hp
  go_enter Try.func22, Try.ntmps22
  go_wp2
  go_loopg [3] n (fun k i wr => ∃ (j : Nat), i = .int .i64 j ∧ j + k = n ∧ okN L j = true ∧ Ext [] w wr)
  case atStart => exact ⟨0, rfl, by omega, rfl, Ext.refl _ _⟩
  case round =>
    obtain ⟨j, rfl, hjk, hok, hE⟩ := hrel
    have HR := Lib.hid (And.intro hok hE)
    clear hok hE
    by_cases hlt : j < n
    · obtain ⟨b, off, rfl, hcell⟩ : ∃ b off, ao = some ⟨b, off, none⟩ ∧ ∀ i, i < n → wr.cell? ⟨b, off + i * 2, none⟩ = some (.int .i64 (L i).1) := by
        rcases HP.out.ext HR.out.2 with h | ⟨b, off, h1, h2⟩
        · omega
        · exact ⟨b, off, h1, fun i hi => (h2 i hi).1⟩
      have HC := Lib.hid hcell
      have k1 := hcell j hlt
      clear hcell
      obtain ⟨x, hx⟩ : ∃ x, x = (L j).1 := ⟨_, rfl⟩
      rw [← hx] at k1
      have HX := Lib.hid hx
      clear hx
      have bad : okN L (j + 1) = false → checkE L n = 2 := fun hb => by
        unfold checkE
        rw [if_neg]
        intro h
        rw [okN_le h (j + 1) hlt] at hb
        cases hb
      have HB := Lib.hid bad
      clear bad
      by_cases hneg : x < 0
      · have hbad : Hid (checkE L n = 2) := HB.out (by simp only [okN, ← HX.out]; simp; omega)
        go_wp2
        go_ret
        show _ ∧ _
        exact ⟨ret_int hbad.out.symm, HR.out.2⟩
      · by_cases hbig : 8191 < x
        · have hbad : Hid (checkE L n = 2) := HB.out (by simp only [okN, ← HX.out]; simp; omega)
          go_wp2
          go_ret
          show _ ∧ _
          exact ⟨ret_int hbad.out.symm, HR.out.2⟩
        · go_wp2
          go_loopg [4] j (fun k i wr' => ∃ (j' : Nat), i = .int .i64 j' ∧ j' + k = j ∧ seenN L j' x = false ∧ Ext [] wr wr')
          case atStart => exact ⟨0, rfl, by omega, rfl, Ext.refl _ _⟩
          case round =>
            obtain ⟨j', rfl, hjk', hs, hE'⟩ := hrel
            have HS := Lib.hid (And.intro hs hE')
            clear hs hE'
            by_cases hlt' : j' < j
            · have k2 := HS.out.2.cell (HC.out j' (by omega)) (by simp)
              have k3 := HS.out.2.cell k1 (by simp)
              cases hq : ((L j').1 == x) with
              | true =>
                have hbad : Hid (checkE L n = 2) := HB.out (by
                  have : seenN L j x = true := seenN_le (show j' + 1 ≤ j by omega) (by simp only [seenN, hq, Bool.or_true])
                  simp only [okN, ← HX.out, this]; simp)
                go_wp2
                go_region
                all_goals
                  go_wp2
                  go_ret
                  show _ ∧ _
                  exact ⟨ret_int hbad.out.symm, (HR.out.2.trans HS.out.2).drew⟩
              | false =>
                go_wp2
                go_region
                all_goals
                  go_wp2
                  go_roundg (j - (j' + 1))
                  case measure => omega
                  case rel => exact ⟨j' + 1, by go_num, by omega, by simp only [seenN, HS.out.1, hq, Bool.or_false], HS.out.2.drew⟩
            · have hge : j' = j := by omega
              have hgood : Hid (okN L (j + 1) = true) := by
                show okN L (j + 1) = true
                have := HS.out.1
                rw [hge] at this
                simp only [okN, ← HX.out, this, HR.out.1]; simp; omega
              go_wp2
              go_roundg (n - (j + 1))
              case measure => omega
              case rel => exact ⟨j + 1, by go_num, by omega, hgood.out, HR.out.2.trans HS.out.2⟩
    · have hge : n ≤ j := by omega
      have hokn : Hid (okN L n = true) := by have := HR.out.1; rwa [show j = n from by omega] at this
      by_cases h11 : 11 < n
      · have hr : Hid (checkE L n = 3) := by show checkE L n = 3; unfold checkE; rw [if_pos hokn.out, if_pos h11]
        go_wp2
        go_ret
        show _ ∧ _
        exact ⟨ret_int hr.out.symm, HR.out.2⟩
      · by_cases h0 : n = 0
        · have hr : Hid (checkE L n = 5) := by show checkE L n = 5; unfold checkE; rw [if_pos hokn.out, if_neg h11, if_pos h0]
          have hb0 : ((n : Int) == 0) = true := by simpa using h0
          clear h0
          go_wp2
          go_ret
          show _ ∧ _
          exact ⟨ret_int hr.out.symm, HR.out.2⟩
        · have hr : Hid (checkE L n = 0) := by show checkE L n = 0; unfold checkE; rw [if_pos hokn.out, if_neg h11, if_neg h0]
          have hb0 : ((n : Int) == 0) = false := by simp; omega
          clear h0
          go_wp2
          go_ret
          show _ ∧ _
          exact ⟨ret_int hr.out.symm, HR.out.2⟩

set_option maxHeartbeats 1000000 in
theorem ref_more (g off n cap : Nat) (s : Int) (xs : Nat → Int) (w : World) (hx : ∀ i, i < n → w.cell? ⟨g, off + i, none⟩ = some (.int .u64 (xs i))) (hn : n ≤ 9223372036854775807) :
    Calls Try.prog 48 #[.int .u64 s, .slice (some ⟨g, off, none⟩) n cap] w fun e w' => e = .returned (.int .u64 (mixN s xs n)) ∧ w = w' := by
  have HX := Lib.hid hx
  clear hx
  go_enter Try.func48, Try.ntmps48
  go_wp2
  go_loopg [0, 5] n (fun k v i wr => ∃ (j : Nat), v = .int .u64 (mixN s xs j) ∧ i = .int .i64 j ∧ j + k = n ∧ w = wr)
  case atStart => exact ⟨0, rfl, rfl, by omega, rfl⟩
  case round =>
    obtain ⟨j, rfl, rfl, hjk, rfl⟩ := hrel
    by_cases hlt : j < n
    · have hc := HX.out j hlt
      go_wp2
      go_roundg (n - (j + 1))
      case measure => omega
      case rel => exact ⟨j + 1, rfl, by go_num, by omega, rfl⟩
    · have hj : n ≤ j := by omega
      go_wp2
      go_ret
      obtain rfl : j = n := by omega
      exact ⟨rfl, rfl⟩

set_option maxHeartbeats 1000000 in
theorem ref_of (g off n cap : Nat) (xs : Nat → Int) (w : World) (hx : ∀ i, i < n → w.cell? ⟨g, off + i, none⟩ = some (.int .u64 (xs i))) (hn : n ≤ 9223372036854775807) :
    Calls Try.prog 42 #[.slice (some ⟨g, off, none⟩) n cap] w fun e w' => e = .returned (.int .u64 (mixN sum0 xs n)) ∧ w = w' := by
  have HM := Lib.hid (ref_more g off n cap sum0 xs w hx hn)
  clear hx
  unfold sum0 at HM
  go_enter Try.func42, Try.ntmps42
  go_wp2_with (go_at_call 48; refine HM.out.mono ?_; rintro e W1 ⟨rfl, rfl⟩)
  go_ret
  exact ⟨rfl, rfl⟩

theorem ref_own (b : Nat) (F : Nat → Int) (e0 : TypeId) (f0 : Nat × Nat) (w : World) (h : w.heap[b]? = some (.cells (arrF 24 F) e0 f0)) :
    Calls Try.prog 42 #[.slice (some ⟨b, 1, none⟩) 23 23] w fun e w' => e = .returned (.int .u64 (own0 F)) ∧ w = w' :=
  ref_of b 1 23 23 (fun i => F (i + 1)) w (fun i hi => by rw [show 1 + i = i + 1 from by omega]; exact cell_of h (arrF_get 24 F (i + 1) (by omega))) (by omega)
end Go.Proofs.Ytjdojckemphadaa
