/- The walk of the law EpochBlocks. -/
import Derived.Test.YtgpoplnfhlfogaaEpE
namespace Go.Proofs.Ytgpoplnfhlfogaa
open Go Go.RowKit

/-- A slice of structs of two ints, as it came in. -/
def Pairs (w : World) (ao : Option Addr) (len : Nat) (A : Nat → Int × Int) : Prop :=
  len = 0 ∨ ∃ b off, ao = some ⟨b, off, none⟩ ∧ ∀ i, i < len → w.cell? ⟨b, off + i * 2, none⟩ = some (.int .i64 (A i).1) ∧ w.cell? ⟨b, off + i * 2 + 1, none⟩ = some (.int .i64 (A i).2)
theorem Pairs.ext {w w' : World} {ao : Option Addr} {len : Nat} {A : Nat → Int × Int} (h : Pairs w ao len A) (he : Ext [] w w') : Pairs w' ao len A := by
  rcases h with h | ⟨b, off, h1, h2⟩
  · exact .inl h
  · exact .inr ⟨b, off, h1, fun i hi => ⟨he.cell (h2 i hi).1 (by simp), he.cell (h2 i hi).2 (by simp)⟩⟩

/-- what holds of the clock while t stays pinned at 0 -/
def BInv (t now : Int) (l : Ents) : Prop :=
  (now = 0 ∨ now = 1) ∧ look l t = some (.int .i64 0) ∧ (∀ p ∈ l, ∃ n, p.2 = .int .i64 n) ∧ ∀ k ∈ keysOf l, 0 ≤ k ∧ k < 8

theorem mem_upd (l : Ents) (k : Int) (v : Value) (p : Int × Value) (h : p ∈ upd l k v) : p = (k, v) ∨ p ∈ l := by
  induction l with
  | nil => simp [upd] at h; exact .inl h
  | cons q l ih =>
    obtain ⟨a, x⟩ := q
    by_cases hk : k = a
    · simp only [upd, if_pos hk, List.mem_cons] at h
      rcases h with h | h
      · exact .inl h
      · exact .inr (List.mem_cons_of_mem _ h)
    · simp only [upd, if_neg hk, List.mem_cons] at h
      rcases h with h | h
      · exact .inr (by rw [h]; exact List.mem_cons_self ..)
      · rcases ih h with h' | h'
        · exact .inl h'
        · exact .inr (List.mem_cons_of_mem _ h')
theorem mem_del (l : Ents) (k : Int) (p : Int × Value) (h : p ∈ del l k) : p ∈ l := by
  induction l with
  | nil => simp [del] at h
  | cons q l ih =>
    obtain ⟨a, x⟩ := q
    by_cases hk : k = a
    · simp only [del, if_pos hk] at h; exact List.mem_cons_of_mem _ h
    · simp only [del, if_neg hk, List.mem_cons] at h
      rcases h with h | h
      · rw [h]; exact List.mem_cons_self ..
      · exact List.mem_cons_of_mem _ (ih h)

theorem BInv.pin {t now : Int} {l : Ents} (h : BInv t now l) (b : Int) (hb : b ≠ t) : BInv t now (if pinErr l b = 0 then upd l b (.int .i64 now) else l) := by
  split
  · rename_i hz
    have hr : 0 ≤ b ∧ b < 8 := by
      unfold pinErr at hz
      by_cases hc : b < 0 ∨ 8 ≤ b
      · rw [if_pos hc] at hz; omega
      · omega
    refine ⟨h.1, by rw [look_upd, if_neg (fun e => hb e.symm)]; exact h.2.1, fun p hp => ?_, fun k hk => ?_⟩
    · rcases mem_upd _ _ _ _ hp with h' | h'
      · exact ⟨now, by rw [h']⟩
      · exact h.2.2.1 p h'
    · rcases (mem_keys_upd _ _ _ _).1 hk with h' | h'
      · rw [h']; exact hr
      · exact h.2.2.2 k h'
  · exact h
theorem BInv.unpin {t now : Int} {l : Ents} (h : BInv t now l) (hn : (keysOf l).Nodup) (b : Int) (hb : b ≠ t) : BInv t now (if unpinErr l b = 0 then del l b else l) := by
  split
  · exact ⟨h.1, by rw [look_del _ _ hn, if_neg (fun e => hb e.symm)]; exact h.2.1, fun p hp => h.2.2.1 p (mem_del _ _ _ hp), fun k hk => h.2.2.2 k ((mem_keys_del _ _ hn _).1 hk).2⟩
  · exact h
theorem BInv.adv {t now : Int} {l : Ents} (h : BInv t now l) : BInv t (if advOk now l then now + 1 else now) l := by
  split
  · rename_i hz
    refine ⟨?_, h.2⟩
    rcases h.1 with h0 | h1
    · right; omega
    · exfalso
      unfold advOk atNow at hz
      rw [Bool.and_eq_true, List.all_eq_true] at hz
      have := hz.1 _ (look_some_mem _ _ _ h.2.1)
      simp at this
      omega
  · exact h

/-- where a call of the loop leaves the clock -/
def BOut (w : World) (c m : Nat) (t : Int) (e : Ending) (w' : World) : Prop :=
  (∃ v, e = .returned v) ∧ ∃ now l, Clk w' c m now l ∧ BInv t now l ∧ Ext [] w w'

theorem blk_pin (w wr : World) (c m : Nat) (t now y : Int) (l : Ents) (hc : Clk wr c m now l) (hi : BInv t now l) (hE : Ext [] w wr) (hm : w.heap.size ≤ m) (hy : y ≠ t) :
    Calls Try.prog 15 #[.pointer (some ⟨c, 0, none⟩), .int .i64 y] wr (BOut w c m t) :=
  (ep_pin c m now l y wr hc).mono fun e w' ⟨h1, h2, h3⟩ => ⟨⟨_, h1⟩, _, _, h3, hi.pin y hy, hE.trans' h2 (fun j hj => .inr (by simp at hj; omega))⟩
theorem blk_unpin (w wr : World) (c m : Nat) (t now y : Int) (l : Ents) (hc : Clk wr c m now l) (hi : BInv t now l) (hE : Ext [] w wr) (hm : w.heap.size ≤ m) (hy : y ≠ t) :
    Calls Try.prog 16 #[.pointer (some ⟨c, 0, none⟩), .int .i64 y] wr (BOut w c m t) :=
  (ep_unpin c m now l y wr hc).mono fun e w' ⟨h1, h2, h3⟩ => ⟨⟨_, h1⟩, _, _, h3, hi.unpin hc.2.nodup y hy, hE.trans' h2 (fun j hj => .inr (by simp at hj; omega))⟩
theorem blk_adv (w wr : World) (c m : Nat) (t now : Int) (l : Ents) (hc : Clk wr c m now l) (hi : BInv t now l) (hE : Ext [] w wr) (hm : w.heap.size ≤ c) :
    Calls Try.prog 17 #[.pointer (some ⟨c, 0, none⟩)] wr (BOut w c m t) :=
  (ep_advance c m now l wr hc hi.2.2.1 (by rcases hi.1 with h | h <;> omega) (by rcases hi.1 with h | h <;> omega)).mono fun e w' ⟨h1, h2, h3⟩ => ⟨⟨_, h1⟩, _, _, h3, hi.adv, hE.trans' h2 (fun j hj => .inr (by simp at hj; omega))⟩

/-- threads below j are not pinned any more -/
def Cleared (w : World) (c m : Nat) (j now : Int) (w' : World) : Prop :=
  ∃ l, Clk w' c m now l ∧ (∀ k ∈ keysOf l, j ≤ k ∧ k < 8) ∧ Ext [] w w'
theorem blk_clear (w wr : World) (c m : Nat) (now j : Int) (hm : w.heap.size ≤ m) (h0 : 0 ≤ j) (h8 : j < 8) (h : Cleared w c m j now wr) :
    Calls Try.prog 16 #[.pointer (some ⟨c, 0, none⟩), .int .i64 j] wr fun e w' => (∃ v, e = .returned v) ∧ Cleared w c m (j + 1) now w' := by
  obtain ⟨l, hc, hk, hE⟩ := h
  refine (ep_unpin c m now l j wr hc).mono fun e w' ⟨h1, h2, h3⟩ => ⟨⟨_, h1⟩, _, h3, ?_, hE.trans' h2 (fun j hj => .inr (by simp at hj; omega))⟩
  split
  · intro k hk'
    have := (mem_keys_del _ _ hc.2.nodup _).1 hk'
    have := hk k this.2
    omega
  · rename_i hz
    intro k hk'
    have h5 := hk k hk'
    have : k ≠ j := fun e => hz (by
      subst e
      unfold unpinErr
      rw [if_neg (by omega)]
      have : look l k ≠ none := fun e => (look_none l k).1 e hk'
      rw [if_neg (by simpa using this)])
    omega
theorem cleared_nil {w w' : World} {c m : Nat} {now : Int} (h : Cleared w c m 8 now w') : Clk w' c m now [] ∧ Ext [] w w' := by
  obtain ⟨l, hc, hk, hE⟩ := h
  have : l = [] := by
    cases l with
    | nil => rfl
    | cons p l => have := hk p.1 (by simp); omega
  subst this
  exact ⟨hc, hE⟩

set_option maxRecDepth 100000 in
set_option maxHeartbeats 4000000 in
theorem ep_blocks (ao : Option Addr) (len cap : Nat) (A : Nat → Int × Int) (t many : Int) (w : World) (hp : Pairs w ao len A) (hlen : len ≤ 9223372036854775807) :
    Calls Try.prog 3 #[.slice ao len cap, .int .i64 t, .int .i64 many] w fun e w' => e = .returned (.bool true) ∧ Ext [] w w' := by
  have HW := Lib.hid (law14_works)
  have HP := Lib.hid hp
  clear hp
  by_cases g1 : 40 < len
  · go_enter Try.func3, Try.ntmps3
    go_wp2_with (go_at_call 13; refine (HW.out _).mono ?_; rintro e w' ⟨rfl, hE⟩)
    go_ret
    exact ⟨rfl, hE⟩
  by_cases g2 : t < 0
  · go_enter Try.func3, Try.ntmps3
    go_wp2_with (go_at_call 13; refine (HW.out _).mono ?_; rintro e w' ⟨rfl, hE⟩)
    go_ret
    exact ⟨rfl, hE⟩
  by_cases g3 : 7 < t
  · go_enter Try.func3, Try.ntmps3
    go_wp2_with (go_at_call 13; refine (HW.out _).mono ?_; rintro e w' ⟨rfl, hE⟩)
    go_ret
    exact ⟨rfl, hE⟩
  by_cases g4 : many < 0
  · go_enter Try.func3, Try.ntmps3
    go_wp2_with (go_at_call 13; refine (HW.out _).mono ?_; rintro e w' ⟨rfl, hE⟩)
    go_ret
    exact ⟨rfl, hE⟩
  by_cases g5 : 40 < many
  · go_enter Try.func3, Try.ntmps3
    go_wp2_with (go_at_call 13; refine (HW.out _).mono ?_; rintro e w' ⟨rfl, hE⟩)
    go_ret
    exact ⟨rfl, hE⟩
  go_enter Try.func3, Try.ntmps3
  go_wp2_with fail
  refine (ep_new _).mono ?_
  rintro e W1 ⟨rfl, hE1, hc1⟩
  obtain ⟨c, hc⟩ : ∃ c, c = w.heap.size + 1 := ⟨_, rfl⟩
  obtain ⟨m, hm⟩ : ∃ m, m = w.heap.size := ⟨_, rfl⟩
  rw [← hc] at hc1 ⊢
  rw [← hm] at hc1
  have HE1 := Lib.hid hE1
  have HC := Lib.hid (show w.heap.size ≤ c ∧ w.heap.size ≤ m from ⟨by omega, by omega⟩)
  clear hc hm hE1
  go_wp2_with fail
  refine (ep_pin_ok c m 0 [] t _ hc1 (by unfold pinErr; rw [if_neg (by omega)]; rfl)).mono ?_
  rintro e W2 ⟨rfl, hE2, hc2⟩
  have HI2 : Hid (BInv t 0 [(t, .int .i64 0)]) := ⟨.inl rfl, by simp [look], by simp, by intro k hk; simp at hk; omega⟩
  have HE2 := Lib.hid (HE1.out.trans' hE2 (fun j hj => .inr (by simp at hj; subst hj; exact HC.out.2)))
  have HC2 := Lib.hid hc2
  clear hE2 hc1 hc2
  go_wp2_with fail
  go_loopg [10] len (fun k i wr => ∃ (j : Nat) (now : Int) (l : Ents), i = .int .i64 j ∧ j + k = len ∧ Clk wr c m now l ∧ BInv t now l ∧ Ext [] w wr)
  case atStart => exact ⟨0, 0, _, rfl, by omega, HC2.out, HI2.out, HE2.out⟩
  case round =>
    obtain ⟨j, now, l, rfl, hjk, hcl, hinv, hE⟩ := hrel
    have HR := Lib.hid (And.intro hcl (And.intro hinv hE))
    clear hcl hinv hE
    by_cases hlt : j < len
    · obtain ⟨b, off, rfl, hcell⟩ : ∃ b off, ao = some ⟨b, off, none⟩ ∧ wr.cell? ⟨b, off + j * 2, none⟩ = some (.int .i64 (A j).1) ∧ wr.cell? ⟨b, off + j * 2 + 1, none⟩ = some (.int .i64 (A j).2) := by
        rcases HP.out.ext HR.out.2.2 with h | ⟨b, off, h1, h2⟩
        · omega
        · exact ⟨b, off, h1, h2 j hlt⟩
      obtain ⟨k1, k2⟩ := hcell
      obtain ⟨x, hx⟩ : ∃ x, x = (A j).1 := ⟨_, rfl⟩
      obtain ⟨y, hy⟩ : ∃ y, y = (A j).2 := ⟨_, rfl⟩
      rw [← hx] at k1
      rw [← hy] at k2
      clear hx hy
      by_cases hs : y = t ∧ x < 2
      · obtain ⟨rfl, hx2⟩ := hs
        have hb : (y == y) = true := by simp
        go_wp2
        go_roundg (len - (j + 1))
        case measure => omega
        case rel => exact ⟨j + 1, now, l, by go_num, by omega, HR.out⟩
      · by_cases x0 : x = 0
        · subst x0
          have hne : y ≠ t := fun e => hs ⟨e, by omega⟩
          have hb : (y == t) = false := by simpa using hne
          clear hs
          go_wp2_with fail
          refine (blk_pin w wr c m t now y l HR.out.1 HR.out.2.1 HR.out.2.2 HC.out.2 hne).mono ?_
          rintro e W3 ⟨⟨v, rfl⟩, now3, l3, hc3, hi3, hE3⟩
          rcases hi3.1 with rfl | rfl
          all_goals
            have HN := Lib.hid (ep_now c m _ l3 W3 hc3)
            have HF := Lib.hid (And.intro hc3 (And.intro hi3 hE3))
            clear hc3 hi3 hE3
            go_wp2_with (go_at_call 18; refine HN.out.mono ?_; rintro e w' ⟨rfl, rfl⟩)
            go_roundg (len - (j + 1))
            case measure => omega
            case rel => exact ⟨j + 1, _, l3, by go_num, by omega, HF.out⟩
        by_cases x1 : x = 1
        · subst x1
          have hne : y ≠ t := fun e => hs ⟨e, by omega⟩
          have hb : (y == t) = false := by simpa using hne
          clear hs
          go_wp2_with fail
          refine (blk_unpin w wr c m t now y l HR.out.1 HR.out.2.1 HR.out.2.2 HC.out.2 hne).mono ?_
          rintro e W3 ⟨⟨v, rfl⟩, now3, l3, hc3, hi3, hE3⟩
          rcases hi3.1 with rfl | rfl
          all_goals
            have HN := Lib.hid (ep_now c m _ l3 W3 hc3)
            have HF := Lib.hid (And.intro hc3 (And.intro hi3 hE3))
            clear hc3 hi3 hE3
            go_wp2_with (go_at_call 18; refine HN.out.mono ?_; rintro e w' ⟨rfl, rfl⟩)
            go_roundg (len - (j + 1))
            case measure => omega
            case rel => exact ⟨j + 1, _, l3, by go_num, by omega, HF.out⟩
        by_cases x2 : x = 2
        · subst x2
          clear hs
          have hbb : (y == t) = true ∨ (y == t) = false := by cases (y == t) <;> simp
          rcases hbb with hb | hb
          all_goals
            go_wp2_with fail
            refine (blk_adv w wr c m t now l HR.out.1 HR.out.2.1 HR.out.2.2 HC.out.1).mono ?_
            rintro e W3 ⟨⟨v, rfl⟩, now3, l3, hc3, hi3, hE3⟩
            rcases hi3.1 with rfl | rfl
            all_goals
              have HN := Lib.hid (ep_now c m _ l3 W3 hc3)
              have HF := Lib.hid (And.intro hc3 (And.intro hi3 hE3))
              clear hc3 hi3 hE3
              go_wp2_with (go_at_call 18; refine HN.out.mono ?_; rintro e w' ⟨rfl, rfl⟩)
              go_roundg (len - (j + 1))
              case measure => omega
              case rel => exact ⟨j + 1, _, l3, by go_num, by omega, HF.out⟩
        · obtain ⟨W3, hW3⟩ : ∃ W3, W3 = wr := ⟨_, rfl⟩
          obtain ⟨hc3, hi3, hE3⟩ := HR.out
          have hbb : ((y == t) = true ∧ 2 ≤ x) ∨ (y == t) = false := by
            by_cases hyt : y = t
            · exact .inl ⟨by simpa using hyt, by omega⟩
            · exact .inr (by simpa using hyt)
          clear hs HR
          subst hW3
          rcases hi3.1 with rfl | rfl <;> rcases hbb with ⟨hb, hx2⟩ | hb
          all_goals
            have HN := Lib.hid (ep_now c m _ l _ hc3)
            have HF := Lib.hid (And.intro hc3 (And.intro hi3 hE3))
            clear hc3 hi3 hE3
            go_wp2_with (go_at_call 18; refine HN.out.mono ?_; rintro e w' ⟨rfl, rfl⟩)
            go_roundg (len - (j + 1))
            case measure => omega
            case rel => exact ⟨j + 1, _, l, by go_num, by omega, HF.out⟩
    · have hle : len ≤ j := by omega
      obtain ⟨n0, hn0⟩ : ∃ n0, n0 = now := ⟨_, rfl⟩
      rw [← hn0] at HR
      have hb0 : 0 ≤ n0 ∧ n0 ≤ 1 := by rcases HR.out.2.1.1 with h | h <;> omega
      have HR2 : Hid (Cleared w c m 0 n0 wr) := ⟨l, HR.out.1, HR.out.2.1.2.2.2, HR.out.2.2⟩
      obtain ⟨hb1, hb2⟩ := hb0
      clear hn0 hjk
      go_wp2
      go_loopg [12] 8 (fun k i wr => ∃ (j : Nat), i = .int .i64 j ∧ j + k = 8 ∧ Cleared w c m j n0 wr)
      case atStart => exact ⟨0, rfl, by omega, HR2.out⟩
      case round =>
        obtain ⟨j2, rfl, hjk2, hcl⟩ := hrel
        have HCL := Lib.hid hcl
        clear hcl
        by_cases h8 : j2 < 8
        · go_wp2_with fail
          refine (blk_clear w _ c m n0 j2 HC.out.2 (by omega) (by omega) HCL.out).mono ?_
          rintro e W4 ⟨⟨v, rfl⟩, hcl4⟩
          have HC4 := Lib.hid hcl4
          clear hcl4
          go_wp2
          go_roundg (8 - (j2 + 1))
          case measure => omega
          case rel => exact ⟨j2 + 1, by go_num, by omega, by have := HC4.out; simpa using this⟩
        · have hj8 : 8 ≤ j2 := by omega
          have HZ : Hid (Clk _ c m n0 [] ∧ Ext [] w _) := cleared_nil (by have := HCL.out; rwa [show ((j2 : Nat) : Int) = 8 from by omega] at this)
          have HN := Lib.hid (ep_now c m n0 [] _ HZ.out.1)
          go_wp2_with (go_at_call 18; refine HN.out.mono ?_; rintro e w' ⟨rfl, rfl⟩)
          go_loopg [14, 15, 16] many.toNat (fun k i _ _ wr => ∃ (j : Nat), i = .int .i64 j ∧ j + k = many.toNat ∧ Clk wr c m (n0 + j) [] ∧ Ext [] w wr)
          case atStart => exact ⟨0, rfl, by omega, by simpa using HZ.out.1, HZ.out.2⟩
          case round =>
            obtain ⟨j3, rfl, hjk3, hc5, hE5⟩ := hrel
            have H5 := Lib.hid (And.intro hc5 hE5)
            clear hc5 hE5
            by_cases hl3 : (j3 : Int) < many
            · go_wp2_with fail
              refine (ep_adv_yes c m _ [] _ H5.out.1 (by simp) (by omega) (by omega) (by unfold advOk; simp [atNow]; omega)).mono ?_
              rintro e W6 ⟨rfl, hE6, hc6⟩
              have H6 : Hid (Clk W6 c m (n0 + ((j3 + 1 : Nat) : Int)) [] ∧ Ext [] w W6) := ⟨by rw [show n0 + ((j3 + 1 : Nat) : Int) = n0 + j3 + 1 from by omega]; exact hc6, H5.out.2.trans' hE6 (fun j hj => .inr (by simp at hj; have := HC.out.1; omega))⟩
              clear hE6 hc6
              go_wp2
              go_roundg (many.toNat - (j3 + 1))
              case measure => omega
              case rel => exact ⟨j3 + 1, by go_num, by omega, H6.out⟩
            · have hge : many ≤ j3 := by omega
              have H7 : Hid (Clk _ c m (n0 + many) [] ∧ Ext [] w _) := ⟨by have := H5.out.1; rwa [show ((j3 : Nat) : Int) = many from by omega] at this, H5.out.2⟩
              have HN7 := Lib.hid (ep_now c m (n0 + many) [] _ H7.out.1)
              go_wp2_with (first | (go_at_call 18; refine HN7.out.mono ?_; rintro e w' ⟨rfl, rfl⟩) | (go_at_call 13; refine (HW.out _).mono ?_; rintro e w' ⟨rfl, hE8⟩) | go_in)
              go_ret
              exact ⟨rfl, H7.out.2.trans hE8⟩
end Go.Proofs.Ytgpoplnfhlfogaa
