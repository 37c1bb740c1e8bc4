/- record.Kind, record.Same, the document's Same, and num: what they answer. -/
import Derived.Test.YteaedcjnfigigaaRcE
namespace Go.Proofs.Yteaedcjnfigigaa
open Go Go.RowKit

def kindE (F : Nat → Int) : Int := if F 0 = 0 then 0 else if unpE F = 0 then 1 else 2
theorem unpE_cases (F : Nat → Int) : unpE F = 0 ∨ unpE F = 5 := by
  unfold unpE
  split
  · exact .inr rfl
  · split
    · exact .inr rfl
    · split
      · exact .inl rfl
      · exact .inr rfl

set_option maxRecDepth 100000 in
set_option maxHeartbeats 1000000 in
theorem rc_kind (F : Nat → Int) (w : World) (hF : ∀ i, 0 ≤ F i) :
    Calls Try.prog 16 #[.agg (arrF 24 F)] w fun e w' => e = .returned (.int .i64 (kindE F)) ∧ Ext [] w w' := by
  have HU := Lib.hid (fun w => rc_unpack F w hF)
  have a1 : (w.alloc (.cells (arrF 24 F) 25)).heap[w.heap.size]? = some (.cells (arrF 24 F) 25 (0, 0)) := World.alloc_heap_new _ _
  have c1 := cell_of a1 (arrF_get 24 F 0 (by omega))
  have hE0 := Lib.hid ((Ext.refl [] w).alloc (.cells (arrF 24 F) 25))
  clear hF
  by_cases h0 : F 0 = 0
  · have hk : Hid (kindE F = 0) := by show kindE F = 0; unfold kindE; rw [if_pos h0]
    have hb : (F 0 == 0) = true := by simpa using h0
    clear h0
    go_enter Try.func16, Try.ntmps16
    go_wp2
    go_ret
    exact ⟨ret_int hk.out.symm, hE0.out⟩
  · have hb : (F 0 == 0) = false := by simpa using h0
    have H0 := Lib.hid h0
    clear h0
    rcases unpE_cases F with hu | hu
    · have hk : Hid (kindE F = 1) := by show kindE F = 1; unfold kindE; rw [if_neg H0.out, if_pos hu]
      have HUE := Lib.hid hu
      clear hu
      go_enter Try.func16, Try.ntmps16
      go_wp2_with (first | ((with_reducible refine load25 a1 ?_ ?_); exact rfl) | (go_at_call 13; refine (HU.out _).mono ?_; rintro e W ⟨ao, n, cap, rfl, hE, _, _⟩; rw [HUE.out]))
      go_ret
      exact ⟨ret_int hk.out.symm, hE0.out.trans hE⟩
    · have hk : Hid (kindE F = 2) := by show kindE F = 2; unfold kindE; rw [if_neg H0.out, if_neg (by omega)]
      have HUE := Lib.hid hu
      clear hu
      go_enter Try.func16, Try.ntmps16
      go_wp2_with (first | ((with_reducible refine load25 a1 ?_ ?_); exact rfl) | (go_at_call 13; refine (HU.out _).mono ?_; rintro e W ⟨ao, n, cap, rfl, hE, _, _⟩; rw [HUE.out]))
      go_ret
      exact ⟨ret_int hk.out.symm, hE0.out.trans hE⟩

set_option maxHeartbeats 400000 in
theorem rc_num (x : Int) (w : World) (h : -9223372036854775808 ≤ x ∧ x ≤ 9223372036854775807) :
    Calls Try.prog 11 #[.int .i64 x] w fun e w' => e = .returned (.int .i64 x) ∧ w = w' := by
  have hw := IntWalk.wrap64_in x h
  go_enter Try.func11, Try.ntmps11
  go_wp2
  go_ret
  exact ⟨rfl, rfl⟩

/-- are the first n puts of both lists the same? -/
def sameN (L M : Nat → Int × Int) : Nat → Bool
  | 0 => true
  | n + 1 => sameN L M n && ((L n).1 == (M n).1 && (L n).2 == (M n).2)
def sameE (n m : Nat) (L M : Nat → Int × Int) : Bool := if n = m then sameN L M n else false
theorem sameN_le {L M : Nat → Int × Int} {n j : Nat} (h : sameN L M n = true) (hj : j ≤ n) : sameN L M j = true := by
  induction n with
  | zero => rw [show j = 0 from by omega]; rfl
  | succ n ih =>
    by_cases hjn : j = n + 1
    · rw [hjn]; exact h
    · simp only [sameN, Bool.and_eq_true] at h
      exact ih h.1 (by omega)
theorem sameN_iff {L M : Nat → Int × Int} {n : Nat} : sameN L M n = true ↔ ∀ i, i < n → L i = M i := by
  induction n with
  | zero => simp [sameN]
  | succ n ih =>
    simp only [sameN, Bool.and_eq_true, beq_iff_eq, ih]
    constructor
    · rintro ⟨h1, h2, h3⟩ i hi
      by_cases h : i < n
      · exact h1 i h
      · obtain rfl : i = n := by omega
        exact Prod.ext h2 h3
    · intro h
      exact ⟨fun i hi => h i (by omega), by rw [h n (by omega)], by rw [h n (by omega)]⟩

theorem nePut (x y x' y' : Int) (w : World) : (binOp .neq 47 (.agg #[.int .i64 x, .int .u64 y]) (.agg #[.int .i64 x', .int .u64 y'])).run Try.prog w = .ok (.bool (!(x == x' && y == y'))) w := by
  rw [run_neq_struct, run_equalIn_struct w 9999 47 _ _ (by kernel_rfl) (by kernel_rfl)]
  obtain ⟨f, g, h, hf⟩ : ∃ f g : Field, (f.type = 3 ∧ f.offset = 0 ∧ (f.name == "_") = false ∧ g.type = 24 ∧ g.offset = 1 ∧ (g.name == "_") = false) ∧ (Try.prog.fieldsOf 47).toList = [f, g] := ⟨_, _, ⟨rfl, rfl, rfl, rfl, rfl, rfl⟩, rfl⟩
  obtain ⟨h1, h2, h3, h4, h5, h6⟩ := h
  rw [beq_eq_false_iff_ne] at h3 h6
  rw [hf]
  simp only [Op.eqFields, ne_eq, h3, h6, not_false_eq_true, if_true, h1, h2, h4, h5, Sem.run_bind, Sem.run_pure, part, isAgg, run_underlying Try.underlying3, Result.andThen_ok]
  by_cases hx : x = x' <;> by_cases hy : y = y' <;> simp [hx, hy, run_equalIn_int w 9998 3 .i64 _ _ _ Try.underlying3, run_equalIn_int w 9998 24 .u64 _ _ _ Try.underlying24]

set_option maxRecDepth 100000 in
set_option maxHeartbeats 1000000 in
theorem ref_same (ao bo : Option Addr) (n m cap cap' : Nat) (L M : Nat → Int × Int) (w : World) (hp : Puts w ao n L) (hq : Puts w bo m M) (hn : n ≤ 9223372036854775807) (hm : m ≤ 9223372036854775807) :
    Calls Try.prog 15 #[.slice ao n cap, .slice bo m cap'] w fun e w' => e = .returned (.bool (sameE n m L M)) ∧ Ext [] w w' := by
  have HP := Lib.hid hp
  have HQ := Lib.hid hq
  have hne := nePut
  clear hp hq
  go_enter Try.func15, Try.ntmps15
  by_cases hnm : n = m
  · subst hnm
    have hr : sameE n n L M = sameN L M n := by unfold sameE; rw [if_pos rfl]
    rw [hr]
    clear hr
    go_wp2
    go_loopg [5] n (fun k i wr => ∃ (j : Nat), i = .int .i64 j ∧ j + k = n ∧ sameN L M j = true ∧ Ext [] w wr)
    case atStart => exact ⟨0, rfl, by omega, rfl, Ext.refl _ _⟩
    case round =>
      obtain ⟨j, rfl, hjk, hs, hE⟩ := hrel
      have HR := Lib.hid (And.intro hs hE)
      clear hs hE
      by_cases hlt : j < n
      · obtain ⟨b, off, rfl, k1, k2⟩ : ∃ b off, ao = some ⟨b, off, none⟩ ∧ wr.cell? ⟨b, off + j * 2, none⟩ = some (.int .i64 (L j).1) ∧ wr.cell? ⟨b, off + j * 2 + 1, none⟩ = some (.int .u64 (L j).2) := by
          rcases HP.out.ext HR.out.2 with h | ⟨b, off, h1, h2⟩
          · omega
          · exact ⟨b, off, h1, h2 j hlt⟩
        obtain ⟨b', off', rfl, k3, k4⟩ : ∃ b off, bo = some ⟨b, off, none⟩ ∧ wr.cell? ⟨b, off + j * 2, none⟩ = some (.int .i64 (M j).1) ∧ wr.cell? ⟨b, off + j * 2 + 1, none⟩ = some (.int .u64 (M j).2) := by
          rcases HQ.out.ext HR.out.2 with h | ⟨b, off, h1, h2⟩
          · omega
          · exact ⟨b, off, h1, h2 j hlt⟩
        cases hq : ((L j).1 == (M j).1 && (L j).2 == (M j).2) with
        | true =>
          have hs' : Hid (sameN L M (j + 1) = true) := by show sameN L M (j + 1) = true; simp only [sameN, HR.out.1, hq, Bool.and_true]
          go_wp2
          go_region
          all_goals
            go_wp2
            go_roundg (n - (j + 1))
            case measure => omega
            case rel => exact ⟨j + 1, by go_num, by omega, hs'.out, HR.out.2.drew⟩
        | false =>
          have hs' : Hid (sameN L M n = false) := by
            show sameN L M n = false
            rw [Bool.eq_false_iff]
            intro h
            have := sameN_le h (show j + 1 ≤ n from hlt)
            simp only [sameN, hq, Bool.and_false] at this
            cases this
          go_wp2
          go_region
          all_goals
            go_wp2
            go_ret
            exact ⟨by rw [hs'.out]; rfl, HR.out.2.drew⟩
      · have hge : n ≤ j := by omega
        have hs' : Hid (sameN L M n = true) := by have := HR.out.1; rwa [show j = n from by omega] at this
        go_wp2
        go_ret
        exact ⟨by rw [hs'.out]; rfl, HR.out.2⟩
  · have hr : Hid (sameE n m L M = false) := by show sameE n m L M = false; unfold sameE; rw [if_neg hnm]
    have hb : ((n : Int) == (m : Int)) = false := by simpa using fun h => hnm (by omega)
    go_wp2
    go_ret
    exact ⟨by rw [hr.out]; rfl, Ext.refl _ _⟩
end Go.Proofs.Yteaedcjnfigigaa
