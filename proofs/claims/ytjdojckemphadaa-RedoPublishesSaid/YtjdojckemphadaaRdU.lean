/- redo: line.at, line.right, touches.first, touches.apply. -/
import Derived.Test.YtjdojckemphadaaRdT
import Derived.Test.YtjdojckemphadaaRdS
import Derived.Test.YtjdojckemphadaaRcM
namespace Go.Proofs.Ytjdojckemphadaa
open Go Go.RowKit Go.Shelf
attribute [local go_sem] Oper.semAt_some

/-- puts as stores -/
def stoT (n : Nat) (P : Nat → Int × Int) : List Tch := (List.range n).map (fun i => ⟨2, (P i).1, (P i).2⟩)
theorem stoT_len (n : Nat) (P : Nat → Int × Int) : (stoT n P).length = n := by simp [stoT]
theorem stoT_succ (n : Nat) (P : Nat → Int × Int) : stoT (n + 1) P = stoT n P ++ [⟨2, (P n).1, (P n).2⟩] := by
  unfold stoT
  rw [List.range_succ, List.map_append]
  rfl
theorem stoT_right {n : Nat} {P : Nat → Int × Int} (h : ∀ i, i < n → 0 ≤ (P i).1 ∧ (P i).1 < 8192) : ∀ t ∈ stoT n P, t.right = true := fun t ht => by
  obtain ⟨i, hi, rfl⟩ := List.mem_map.1 ht
  have := h i (List.mem_range.1 hi)
  show (decide (0 ≤ (P i).1) && decide ((P i).1 < 8192) && (true || _)) = true
  rw [decide_eq_true this.1, decide_eq_true this.2]
  rfl
/-- the touches that apply puts -/
def appT (n : Nat) (P : Nat → Int × Int) : List Tch := closedT (stoT n P)
theorem appT_eq (n : Nat) (P : Nat → Int × Int) : appT n P = stoT n P ++ flK (storedL (stoT n P)) ++ [⟨4, 0, 0⟩] := rfl
/-- those by which a journal's first word is another one -/
def fstT (j x : Int) : List Tch := [⟨2, 8 * j, x⟩, ⟨3, j, 0⟩, ⟨4, 0, 0⟩]
theorem Tx.then {tb : Nat} {m : List Nat} {a b c : World} (h : Tx tb a b) (hE : Ext m b c) (hm : ∀ j ∈ m, j = tb ∨ a.heap.size ≤ j) : Tx tb a c :=
  ⟨hE.os.trans h.os, hE.tape.trans h.tape, hE.output.trans h.output, Nat.le_trans h.size hE.size, fun i o h1 h2 h3 => hE.at (h.block i o h1 h2 h3) (fun hj => (hm i hj).elim h2 (fun hl => by have := lt_of_block h1; omega))⟩

set_option maxHeartbeats 400000 in
theorem rd_at (j k : Int) (w : World) (h0 : 0 ≤ j ∧ j ≤ 1024) (h1 : 0 ≤ k ∧ k ≤ 24) : Calls Try.prog 30 #[.int .i64 j, .int .i64 k] w fun e w' => e = .returned (.int .i64 (8 * j + k)) ∧ w = w' := by
  have hw1 : wrap64 (j * 8) = j * 8 := IntWalk.wrap64_in _ (by omega)
  have hw2 : wrap64 (j * 8 + k) = 8 * j + k := by rw [Int.mul_comm]; exact IntWalk.wrap64_in _ (by omega)
  clear h0 h1
  go_enter Try.func30, Try.ntmps30
  go_wp2
  go_ret
  refine ⟨?_, rfl⟩
  show Ending.returned (.int .i64 (wrap64 (j * 8 + k))) = _
  rw [hw2]
/-- may it be a journal's first line? -/
def jOk (j : Int) : Bool := decide (0 ≤ j) && decide (j ≤ 1021)
set_option maxHeartbeats 400000 in
theorem rd_right (j : Int) (w : World) : Calls Try.prog 13 #[.int .i64 j] w fun e w' => e = .returned (.bool (jOk j)) ∧ w = w' := by
  unfold jOk
  obtain ⟨A, hA⟩ : ∃ A, decide (0 ≤ j) = A := ⟨_, rfl⟩
  obtain ⟨B, hB⟩ : ∃ B, decide (j ≤ 1021) = B := ⟨_, rfl⟩
  rw [hA, hB]
  cases A <;> cases B
  all_goals
    go_enter Try.func13, Try.ntmps13
    go_wp2
    go_ret
    exact ⟨rfl, rfl⟩

set_option maxRecDepth 100000 in
set_option maxHeartbeats 1000000 in
theorem th_first (w0 W : World) (tb : Nat) (L : List Tch) (j x : Int) (h : TB w0 W tb L) (hn : L.length ≤ 10000) (hj : 0 ≤ j ∧ j ≤ 1024) :
    Calls Try.prog 20 #[.pointer (some ⟨tb, 0, none⟩), .agg #[.int .i64 j], .int .u64 x] W (ThPost w0 W tb (L ++ fstT j x)) := by
  obtain ⟨W1, hW1⟩ : ∃ W1, W.alloc (.cells #[.int .i64 j] 47) = W1 := ⟨_, rfl⟩
  have hb1 : W1.heap[W.heap.size]? = some (.cells #[.int .i64 j] 47 (0, 0)) := by rw [← hW1]; exact World.alloc_heap_new _ _
  have hE1 : Ext [] W W1 := by rw [← hW1]; exact (Ext.refl _ _).alloc _
  obtain ⟨jb, hjb⟩ : ∃ jb, W.heap.size = jb := ⟨_, rfl⟩
  rw [hjb] at hb1
  have h1 := h.ext0 hE1
  have hne : jb ≠ tb := fun e => by obtain ⟨v, hv, _⟩ := h1.has; rw [← e, hb1] at hv; simp at hv
  have H1 := Lib.hid (And.intro h1 (And.intro hE1 (And.intro hb1 (And.intro hne (And.intro hj hn)))))
  have k1 := cell_of (j := 0) (v := .int .i64 j) hb1 rfl
  have HA := Lib.hid (fun w => rd_at j 0 w hj (by omega))
  clear h h1 hE1 hb1 hne hj hn
  go_enter Try.func20, Try.ntmps20
  go_wp2_with fail
  try rw [hW1]
  try rw [hjb]
  clear hW1 hjb
  refine (HA.out _).mono ?_
  rintro e w' ⟨rfl, rfl⟩
  rw [Int.add_zero]
  go_wp2_with fail
  refine (th_store w0 W1 tb L (8 * j) x H1.out.1 (by have := H1.out.2.2.2.2.2; omega)).mono ?_
  rintro e W2 ⟨⟨_, rfl⟩, hT, hX⟩
  have hb2 := hX.block _ _ H1.out.2.2.1 H1.out.2.2.2.1 (fun cur f e => by simp at e)
  have k2 := cell_of (j := 0) (v := .int .i64 j) hb2 rfl
  have hb3 := World.alloc_heap_new W2 (.cells #[.int .i64 j] 3)
  have hE3 : Ext [] W2 (W2.alloc (.cells #[.int .i64 j] 3)) := (Ext.refl _ _).alloc _
  have H2 := Lib.hid (And.intro (hT.ext0 hE3) (And.intro ((H1.out.2.1.tx0 (tb := tb)).trans (hX.trans hE3.tx0)) hb3))
  clear hT hX hb2 hb3 hE3 k1
  go_wp2_with fail
  refine (th_flush w0 _ tb (L ++ [⟨2, 8 * j, x⟩]) (some ⟨W2.heap.size, 0, none⟩) 1 [j] H2.out.1 (IntT.one H2.out.2.2) (by have := H1.out.2.2.2.2.2; simp; omega) (by simp)).mono ?_
  rintro e W3 ⟨⟨_, rfl⟩, hT, hX⟩
  have H3 := Lib.hid (And.intro hT (H2.out.2.1.trans hX))
  clear hT hX k2
  go_wp2_with fail
  refine (th_fence w0 W3 tb _ H3.out.1 (by have := H1.out.2.2.2.2.2; simp [flK]; omega)).mono ?_
  rintro e W4 ⟨⟨_, rfl⟩, hT, hX⟩
  have H4 := Lib.hid (And.intro hT (H3.out.2.trans hX))
  clear hT hX
  go_wp2
  go_end0
  refine ⟨⟨_, rfl⟩, ?_, H4.out.2⟩
  have := H4.out.1
  unfold fstT
  simpa [flK] using this

theorem div_wrap {a : Int} (h : 0 ≤ a ∧ a < 8192) : wrap64 (a / 8) = a / 8 := IntWalk.wrap64_in _ (by omega)
theorem ll_le {L : List Tch} {n j : Nat} {P : Nat → Int × Int} (h : L.length + n ≤ 10000) (hj : j ≤ n) : (L ++ stoT j P).length ≤ 10000 := by rw [List.length_append, stoT_len]; omega
theorem succ_wrap {j n : Nat} (h : j < n) (hn : n ≤ 100000) : wrap64 ((j : Int) + 1) = (j : Int) + 1 := IntWalk.wrap64_in _ (by omega)
set_option maxRecDepth 100000 in
set_option maxHeartbeats 4000000 in
theorem th_apply (w0 W : World) (tb : Nat) (L : List Tch) (ao : Option Addr) (n cap : Nat) (P : Nat → Int × Int) (h : TB w0 W tb L) (hp : ∀ W', Ext [tb] w0 W' → Tx tb W W' → Puts W' ao n P) (hP : ∀ i, i < n → 0 ≤ (P i).1 ∧ (P i).1 < 8192) (hn : L.length + n ≤ 10000) :
    Calls Try.prog 18 #[.pointer (some ⟨tb, 0, none⟩), .slice ao n cap] W (ThPost w0 W tb (L ++ appT n P)) := by
  have hmm := @run_makeMap Try.prog
  obtain ⟨W1, hW1⟩ : ∃ W1, W.alloc (.map #[] 0) = W1 := ⟨_, rfl⟩
  obtain ⟨mb, hmb⟩ : ∃ mb, W.heap.size = mb := ⟨_, rfl⟩
  have H1 : Hid (TB w0 W1 tb L ∧ IMap W1 mb [] ∧ Tx tb W W1 ∧ W.heap.size = mb ∧ w0.heap.size ≤ mb ∧ tb ≠ mb) := by
    have hE1 : Ext [] W W1 := by rw [← hW1]; exact (Ext.refl _ _).alloc _
    have hM : IMap W1 mb [] := by rw [← hW1, ← hmb]; exact IMap.made W
    refine ⟨h.ext0 hE1, hM, hE1.tx0, hmb, by have := h.ex.size; omega, fun e => ?_⟩
    obtain ⟨v, hv, _⟩ := h.has
    have := lt_of_block hv
    omega
  have HP := Lib.hid (And.intro hp (And.intro hP hn))
  have HWE := Lib.hid (And.intro hW1 hmb)
  clear h hp hP hW1 hmb hn
  go_enter Try.func18, Try.ntmps18
  go_wp2
  try rw [HWE.out.1]
  try rw [HWE.out.2]
  clear HWE
  go_loopg [10] n (fun c i wr => ∃ j : Nat, i = .int .i64 j ∧ j + c = n ∧ TB w0 wr tb (L ++ stoT j P) ∧ Tx tb W wr ∧ ∃ cur, IMap wr mb cur ∧ ∀ k, k ∈ keysOf cur ↔ (stoT j P).any (Tch.st k) = true)
  case atStart => exact ⟨0, rfl, by omega, by simpa [stoT] using H1.out.1, H1.out.2.2.1, [], H1.out.2.1, fun k => by simp [stoT]⟩
  case round =>
    obtain ⟨j, rfl, hjk, hT, hX, cur, hM, hks⟩ := hrel
    by_cases hlt : j < n
    · have hPu := HP.out.1 wr hT.ex hX
      obtain ⟨b, off, rfl, c0, c1⟩ : ∃ b off, ao = some ⟨b, off, none⟩ ∧ wr.cell? ⟨b, off + j * 2, none⟩ = some (.int .i64 (P j).1) ∧ wr.cell? ⟨b, off + j * 2 + 1, none⟩ = some (.int .u64 (P j).2) := by
        rcases hPu with h0 | ⟨b, off, h1, h2⟩
        · omega
        · exact ⟨b, off, h1, h2 j hlt⟩
      have hb0 := HP.out.2.1 j hlt
      have hss := stoT_succ j P
      obtain ⟨a, ha⟩ : ∃ a, (P j).1 = a := ⟨_, rfl⟩
      obtain ⟨x, hx⟩ : ∃ x, (P j).2 = x := ⟨_, rfl⟩
      rw [ha] at c0 hb0 hss
      rw [hx] at c1 hss
      obtain ⟨y, hy⟩ : ∃ y, a / 8 = y := ⟨_, rfl⟩
      have hdv : a.tdiv 8 = y := by rw [Int.tdiv_eq_ediv_of_nonneg hb0.1]; exact hy
      have hwy : wrap64 y = y := by rw [← hy]; exact div_wrap hb0
      have hkk : ∀ k, (stoT (j + 1) P).any (Tch.st k) = ((stoT j P).any (Tch.st k) || (y == k)) := fun k => by
        rw [hss, List.any_append, List.any_cons, List.any_nil, Bool.or_false, ← hy]
        rfl
      have hj0 : (0 : Int) ≤ (j : Int) := by omega
      have hj1 : (j : Int) < (n : Int) := by omega
      have hwj : wrap64 ((j : Int) + 1) = (j : Int) + 1 := succ_wrap hlt (by have := HP.out.2.2; clear hdv hwy hy; omega)
      obtain ⟨X1, hX1⟩ : ∃ X, wr.alloc (.cells #[.int .i64 a, .int .u64 x] 36) = X := ⟨_, rfl⟩
      obtain ⟨xb, hxb⟩ : ∃ b, wr.heap.size = b := ⟨_, rfl⟩
      have hbx : X1.heap[xb]? = some (.cells #[.int .i64 a, .int .u64 x] 36 (0, 0)) := by rw [← hX1, ← hxb]; exact World.alloc_heap_new _ _
      have hEx : Ext [] wr X1 := by rw [← hX1]; exact (Ext.refl _ _).alloc _
      have hTx := hT.ext0 hEx
      have hnx : xb ≠ tb := fun e => by obtain ⟨v, hv, _⟩ := hTx.has; rw [← e, hbx] at hv; simp at hv
      have k0 := cell_of (j := 0) (v := .int .i64 a) hbx rfl
      have k1 := cell_of (j := 1) (v := .int .u64 x) hbx rfl
      have hll : (L ++ stoT j P).length ≤ 100000 := Nat.le_trans (ll_le HP.out.2.2 (Nat.le_of_lt hlt)) (by decide)
      have HJ := Lib.hid (And.intro hjk (And.intro hlt (And.intro hTx (And.intro (hX.trans hEx.tx0) (And.intro (hM.ext hEx (by simp)) (And.intro hks (And.intro hkk (And.intro hss (And.intro hbx (And.intro hnx hll))))))))))
      have HXE := Lib.hid (And.intro hX1 hxb)
      clear hjk hlt hT hX hM hks hPu hb0 hss ha hx hy hkk hbx hEx hTx hnx hll hX1 hxb
      go_wp2_with fail
      try rw [HXE.out.1]
      try rw [HXE.out.2]
      clear HXE
      refine (th_store w0 X1 tb (L ++ stoT j P) a x HJ.out.2.2.1 HJ.out.2.2.2.2.2.2.2.2.2.2).mono ?_
      rintro e X2 ⟨⟨_, rfl⟩, hT2, hX2⟩
      have hbx2 := hX2.block _ _ HJ.out.2.2.2.2.2.2.2.2.1 HJ.out.2.2.2.2.2.2.2.2.2.1 (fun cur f e => by simp at e)
      have q0 := cell_of (j := 0) (v := .int .i64 a) hbx2 rfl
      have hM2 := hX2.map HJ.out.2.2.2.2.1 (fun e => H1.out.2.2.2.2.2 e.symm)
      obtain ⟨X3, hset, hE3, hm3, hs3⟩ := run_mapSet' (P := Try.prog) 76 3 78 Try.underlying76 Try.underlying3 hM2 y (.agg #[])
      have HR : Hid (TB w0 X3 tb (L ++ stoT (j + 1) P) ∧ Tx tb W X3 ∧ ∃ cur, IMap X3 mb cur ∧ ∀ k, k ∈ keysOf cur ↔ (stoT (j + 1) P).any (Tch.st k) = true) := by
        refine ⟨?_, (HJ.out.2.2.2.1.trans hX2).then hE3 (fun i hi => .inr (by simp at hi; have := H1.out.2.2.2.1; omega)), _, hm3, fun k => ?_⟩
        · rw [HJ.out.2.2.2.2.2.2.2.1, ← List.append_assoc]
          obtain ⟨es, c, hmo, _⟩ := hM2
          exact hT2.other H1.out.2.2.2.2.1 hmo (fun cur e f h => by cases h) hE3
        · rw [mem_keys_upd, HJ.out.2.2.2.2.2.1, HJ.out.2.2.2.2.2.2.1, Bool.or_eq_true]
          simp
          exact ⟨fun h => h.elim (fun h => .inr h.symm) .inl, fun h => h.elim .inr (fun h => .inl h.symm)⟩
      clear hT2 hX2 hbx2 hM2 hE3 hm3 hs3 k0 k1
      go_wp2
      go_roundg (n - (j + 1))
      case measure => have := HJ.out.1; have := HJ.out.2.1; clear hwj hdv hwy; omega
      case rel => exact ⟨j + 1, by first | (rw [hwj]; rfl) | rfl, by have := HJ.out.1; have := HJ.out.2.1; clear hwj hdv hwy; omega, HR.out⟩
    · have hjn : ¬ ((j : Int) < (n : Int)) := by omega
      obtain rfl : j = n := by omega
      have hrt := stoT_right HP.out.2.1
      have hsk : sortK cur = storedL (stoT j P) := sortK_upto hM.nodup (fun k => by
        rw [hks]
        exact ⟨fun h => mem_upto.1 ((mem_storedL hrt).2 h), fun h => h.2.2⟩)
      have hln : (storedL (stoT j P)).length ≤ 1024 := upto_len _ _
      have HS := Lib.hid (rd_sorted mb cur wr hM (by rw [← sortK_len, hsk]; omega) (fun p hp => by
        have hk : p.1 ∈ sortK cur := (sortK_perm cur).mem_iff.2 (List.mem_map.2 ⟨p, hp, rfl⟩)
        rw [hsk] at hk
        have := mem_upto.1 hk
        simp [Lit.wf, IntKind.min, IntKind.max, IntKind.signed, IntKind.bits]
        omega))
      rw [hsk] at HS
      have H5 := Lib.hid (And.intro hT (And.intro hX hln))
      clear hjk hlt hT hX hM hks hrt hsk hln
      go_wp2_with fail
      refine HS.out.mono ?_
      rintro e X6 ⟨v, rfl, hO, hE6⟩
      obtain ⟨ko, kc, rfl, hK⟩ := hO.typed
      have hll : (L ++ stoT j P).length ≤ 50000 := Nat.le_trans (ll_le HP.out.2.2 (Nat.le_refl _)) (by decide)
      have HF6 := Lib.hid (th_flush w0 X6 tb (L ++ stoT j P) ko kc (storedL (stoT j P)) (H5.out.1.ext0 hE6) hK hll (by have := H5.out.2.2; omega))
      have HX6 := Lib.hid (H5.out.2.1.trans (hE6.tx0))
      clear hO hE6 hK
      generalize hq : (storedL (stoT j P)).length = q at *
      go_wp2_with fail
      refine HF6.out.mono ?_
      rintro e X7 ⟨⟨_, rfl⟩, hT7, hX7⟩
      have H7 := Lib.hid (And.intro hT7 (HX6.out.trans hX7))
      have hl7 : (L ++ stoT j P ++ flK (storedL (stoT j P))).length ≤ 100000 := by
        rw [List.length_append]
        unfold flK
        rw [List.length_map, hq]
        have := H5.out.2.2
        omega
      have HL7 := Lib.hid hl7
      clear hT7 hX7 hl7 hll hq
      go_wp2_with fail
      refine (th_fence w0 X7 tb _ H7.out.1 HL7.out).mono ?_
      rintro e X8 ⟨⟨_, rfl⟩, hT8, hX8⟩
      have H8 := Lib.hid (And.intro hT8 (H7.out.2.trans hX8))
      clear hT8 hX8
      go_wp2
      go_end0
      refine ⟨⟨_, rfl⟩, ?_, H8.out.2⟩
      rw [appT_eq, ← List.append_assoc, ← List.append_assoc]
      exact H8.out.1
end Go.Proofs.Ytjdojckemphadaa
