/- record.Check: what it answers. -/
import Derived.Test.YtjdojckemphadaaSm
import Derived.Test.YtjdojckemphadaaArr
namespace Go.Proofs.Ytjdojckemphadaa
open Go Go.RowKit

/-- A slice of puts, as it lies. -/
def Puts (w : World) (ao : Option Addr) (n : Nat) (L : Nat → Int × Int) : Prop :=
  n = 0 ∨ ∃ b off, ao = some ⟨b, off, none⟩ ∧ ∀ i, i < n → w.cell? ⟨b, off + i * 2, none⟩ = some (.int .i64 (L i).1) ∧ w.cell? ⟨b, off + i * 2 + 1, none⟩ = some (.int .u64 (L i).2)
theorem Puts.ext {w w' : World} {ao : Option Addr} {n : Nat} {L : Nat → Int × Int} (h : Puts w ao n L) (he : Ext [] w w') : Puts w' ao n L := by
  rcases h with h | ⟨b, off, h1, h2⟩
  · exact .inl h
  · exact .inr ⟨b, off, h1, fun i hi => ⟨he.cell (h2 i hi).1 (by simp), he.cell (h2 i hi).2 (by simp)⟩⟩

def seenN (L : Nat → Int × Int) : Nat → Int → Bool
  | 0, _ => false
  | n + 1, k => seenN L n k || (L n).1 == k
def okN (L : Nat → Int × Int) : Nat → Bool
  | 0 => true
  | n + 1 => okN L n && (decide (0 ≤ (L n).1) && decide ((L n).1 < 8192) && !seenN L n (L n).1)
theorem okN_le {L : Nat → Int × Int} {n : Nat} (h : okN L n = true) : ∀ j, j ≤ n → okN L j = true := by
  induction n with
  | zero => intro j hj; rw [show j = 0 from by omega]; exact h
  | succ n ih =>
    intro j hj
    rcases Nat.lt_or_ge j (n + 1) with h1 | h1
    · simp only [okN, Bool.and_eq_true] at h; exact ih h.1 j (by omega)
    · obtain rfl : j = n + 1 := by omega
      exact h
def checkE (L : Nat → Int × Int) (n : Nat) : Int := if okN L n then (if 11 < n then 3 else if n = 0 then 5 else 0) else 2
def ChkPost (w : World) (L : Nat → Int × Int) (n : Nat) (e : Ending) (w' : World) : Prop := e = .returned (.int .i64 (checkE L n)) ∧ Ext [] w w'

theorem zeroI (w : World) : (zeroValue 3).run Try.prog w = .ok (.int .i64 0) w := by kernel_rfl

set_option maxRecDepth 100000 in
set_option maxHeartbeats 4000000 in
theorem rc_check (ao : Option Addr) (n cap : Nat) (L : Nat → Int × Int) (w : World) (hp : Puts w ao n L) (hn : n ≤ 9223372036854775807) :
    Calls Try.prog 33 #[.slice ao n cap] w (ChkPost w L n) := by
  have HP := Lib.hid hp
  clear hp
  have hmm := @run_makeMap Try.prog
  go_enter Try.func33, Try.ntmps33
  go_wp2_with fail
  refine wp_scope_ahead 0 rfl ?_
  go_wp2_with fail
  go_loopg [9] n (fun k i wr => ∃ (j : Nat) (l : Ents), i = .int .i64 j ∧ j + k = n ∧ okN L j = true ∧ IMap wr w.heap.size l ∧ (∀ x, look l x = if seenN L j x then some (.int .i64 1) else none) ∧ Ext [] w wr)
  case atStart => exact ⟨0, [], rfl, by omega, rfl, IMap.made w, fun x => rfl, (Ext.refl _ _).alloc _⟩
  case round =>
    obtain ⟨j, l, rfl, hjk, hok, hm, hlk, hE⟩ := hrel
    have HR := Lib.hid (And.intro hok (And.intro hm (And.intro hlk hE)))
    clear hok hm hlk hE
    by_cases hlt : j < n
    · obtain ⟨b, off, rfl, hcell⟩ : ∃ b off, ao = some ⟨b, off, none⟩ ∧ wr.cell? ⟨b, off + j * 2, none⟩ = some (.int .i64 (L j).1) ∧ wr.cell? ⟨b, off + j * 2 + 1, none⟩ = some (.int .u64 (L j).2) := by
        rcases HP.out.ext HR.out.2.2.2 with h | ⟨b, off, h1, h2⟩
        · omega
        · exact ⟨b, off, h1, h2 j hlt⟩
      obtain ⟨k1, k2⟩ := hcell
      obtain ⟨x, hx⟩ : ∃ x, x = (L j).1 := ⟨_, rfl⟩
      obtain ⟨y, hy⟩ : ∃ y, y = (L j).2 := ⟨_, rfl⟩
      rw [← hx] at k1
      rw [← hy] at k2
      have HX := Lib.hid (And.intro hx hy)
      clear hx hy
      have hlook := run_look_at (P := Try.prog) 33 3 3 (.int .i64 0) Try.underlying33 Try.underlying3 (zeroI _) (HR.out.2.1.alloc (.cells #[.int .i64 x, .int .u64 y] 36)) x
      have bad : okN L (j + 1) = false → checkE L n = 2 := fun hb => by
        unfold checkE
        rw [if_neg]
        intro h
        rw [okN_le h (j + 1) hlt] at hb
        cases hb
      have HB := Lib.hid bad
      clear bad
      by_cases hneg : x < 0
      · have hbad : Hid (checkE L n = 2) := HB.out (by simp only [okN, ← HX.out.1]; simp; omega)
        clear hlook
        go_wp2
        go_step3
        simp only [Exit.inBlock, Exit.then]
        refine ⟨rfl, ?_⟩
        go_wp2
        rw [Exit.noGoto_ret]
        go_ret
        show _ ∧ _
        exact ⟨ret_int hbad.out.symm, HR.out.2.2.2.alloc _⟩
      · by_cases hbig : 8192 ≤ x
        · have hbad : Hid (checkE L n = 2) := HB.out (by simp only [okN, ← HX.out.1]; simp; omega)
          clear hlook
          go_wp2
          go_step3
          simp only [Exit.inBlock, Exit.then]
          refine ⟨rfl, ?_⟩
          go_wp2
          rw [Exit.noGoto_ret]
          go_ret
          show _ ∧ _
          exact ⟨ret_int hbad.out.symm, HR.out.2.2.2.alloc _⟩
        · cases hsn : seenN L j x with
          | true =>
            have hbad : Hid (checkE L n = 2) := HB.out (by simp only [okN, ← HX.out.1, hsn]; simp)
            rw [HR.out.2.2.1 x, hsn] at hlook
            simp only [if_true, Option.getD_some] at hlook
            have HS := Lib.hid hsn
            clear hsn
            go_wp2
            go_step3
            simp only [Exit.inBlock, Exit.then]
            refine ⟨rfl, ?_⟩
            go_wp2
            rw [Exit.noGoto_ret]
            go_ret
            show _ ∧ _
            exact ⟨ret_int hbad.out.symm, HR.out.2.2.2.alloc _⟩
          | false =>
            have hgood : Hid (okN L (j + 1) = true) := by
              show okN L (j + 1) = true
              simp only [okN, ← HX.out.1, hsn, HR.out.1]; simp; omega
            rw [HR.out.2.2.1 x, hsn] at hlook
            simp only [Bool.false_eq_true, if_false, Option.getD_none] at hlook
            have HS := Lib.hid hsn
            clear hsn
            obtain ⟨W2, hset, hE2, hm2, hs2⟩ := run_mapSet' (P := Try.prog) 33 3 3 Try.underlying33 Try.underlying3 (HR.out.2.1.alloc (.cells #[.int .i64 x, .int .u64 y] 36)) x (.int .i64 1)
            have HW : Hid (IMap W2 w.heap.size (upd l x (.int .i64 1)) ∧ Ext [] w W2) := ⟨hm2, (HR.out.2.2.2.alloc _).trans' hE2 (fun j hj => .inr (by simp at hj; omega))⟩
            clear hE2 hm2 hs2
            go_wp2
            go_roundg (n - (j + 1))
            case measure => omega
            case rel =>
              refine ⟨j + 1, _, by go_num, by omega, hgood.out, HW.out.1, fun z => ?_, HW.out.2⟩
              rw [look_upd]
              simp only [seenN, ← HX.out.1]
              by_cases hz : z = x
              · subst hz; simp
              · rw [if_neg hz, HR.out.2.2.1 z]
                have : (x == z) = false := by simpa using fun e => hz e.symm
                rw [this, Bool.or_false]
    · have hge : n ≤ j := by omega
      have hokn : Hid (okN L n = true) := by have := HR.out.1; rwa [show j = n from by omega] at this
      by_cases h11 : 11 < n
      · have hr : Hid (checkE L n = 3) := by show checkE L n = 3; unfold checkE; rw [if_pos hokn.out, if_pos h11]
        go_wp2
        go_step3
        simp only [Exit.then]
        refine ⟨rfl, ?_⟩
        go_wp2
        rw [Exit.noGoto_ret]
        go_ret
        show _ ∧ _
        exact ⟨ret_int hr.out.symm, HR.out.2.2.2⟩
      · by_cases h0 : n = 0
        · have hr : Hid (checkE L n = 5) := by show checkE L n = 5; unfold checkE; rw [if_pos hokn.out, if_neg h11, if_pos h0]
          have hb0 : ((n : Int) == 0) = true := by simpa using h0
          clear h0
          go_wp2
          go_step3
          simp only [Exit.then]
          refine ⟨rfl, ?_⟩
          go_wp2
          rw [Exit.noGoto_ret]
          go_ret
          show _ ∧ _
          exact ⟨ret_int hr.out.symm, HR.out.2.2.2⟩
        · have hr : Hid (checkE L n = 0) := by show checkE L n = 0; unfold checkE; rw [if_pos hokn.out, if_neg h11, if_neg h0]
          have hb0 : ((n : Int) == 0) = false := by simp; omega
          clear h0
          go_wp2
          rw [jump_ret]
          go_ret
          show _ ∧ _
          exact ⟨ret_int hr.out.symm, HR.out.2.2.2⟩
end Go.Proofs.Ytjdojckemphadaa
