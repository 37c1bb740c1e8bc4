/- slices.Values at puts, record.Each and what it hands back: their contracts as iterators. -/
import Derived.Test.YteaedcjnfigigaaRow
import Derived.RangeFuncLeaves
import Derived.Shelf.Abstract
namespace Go.Proofs.Yteaedcjnfigigaa
open Go Go.RowKit Go.Shelf
attribute [local go_sem] Oper.semAt_some
attribute [local go_sem ↓] wp_load25

/-- the first k puts, as yield is handed them -/
def encN (L : Nat → Int × Int) (k : Nat) : List (Array Value) := (List.range k).map fun i => #[.agg #[.int .i64 (L i).1, .int .u64 (L i).2]]
theorem encN_succ (L : Nat → Int × Int) (k : Nat) : encN L (k + 1) = encN L k ++ [#[.agg #[.int .i64 (L k).1, .int .u64 (L k).2]]] := by simp [encN, List.range_succ]
theorem encN_len (L : Nat → Int × Int) (k : Nat) : (encN L k).length = k := by simp [encN]

set_option maxRecDepth 100000 in
set_option maxHeartbeats 2000000 in
theorem vals_seq (Bs : Nat) (ao : Option Addr) (n cap : Nat) (L : Nat → Int × Int) (hn : n ≤ 1000000) :
    SeqC Try.prog 31 #[.pointer (some ⟨Bs, 0, none⟩)] (fun pre => ∃ k, k ≤ n ∧ pre = encN L k) (fun xs => xs = encN L n)
      (fun W => W.cell? ⟨Bs, 0, none⟩ = some (.slice ao n cap) ∧ Puts W ao n L) := by
  intro l N I Ix hI hIx hK hY w m hN hlw hm h0
  refine callsIn_of_wp Try.func31 rfl trivial ?_ rfl
  simp only [Try.ntmps31, List.size_toArray, List.length_cons, List.length_nil, Nat.reduceAdd, Nat.reduceSub, Array.replicate_succ, Array.replicate_zero, List.push_toArray, List.append_toArray, List.nil_append, List.cons_append]
  have HI := Lib.hid hI
  have HX := Lib.hid hIx
  have HK := Lib.hid hK
  have HY := Lib.hid hY
  obtain ⟨kb, _⟩ := hK _ _ _ h0
  have H0 := Lib.hid h0
  clear hI hIx hK hY h0
  gi_wp2
  gi_loopw [7] (fun i wr => ∃ (k : Nat) (m' : List Nat), k ≤ n ∧ i = .int .i64 k ∧ I m' (encN L k) wr) (fun i _ => n - (intOf i).toNat)
  case atStart => exact ⟨0, m, Nat.zero_le _, rfl, H0.out⟩
  case round =>
    obtain ⟨k, m', hk, rfl, hJs⟩ := hrel
    have HJ := Lib.hid hJs
    clear hJs
    by_cases hlt : k < n
    · obtain ⟨b, off, rfl, k1, k2⟩ : ∃ b off, ao = some ⟨b, off, none⟩ ∧ wr.cell? ⟨b, off + k * 2, none⟩ = some (.int .i64 (L k).1) ∧ wr.cell? ⟨b, off + k * 2 + 1, none⟩ = some (.int .u64 (L k).2) := by
        rcases (HK.out _ _ _ HJ.out).2 with h | ⟨b, off, h1, h2⟩
        · omega
        · exact ⟨b, off, h1, h2 k hlt⟩
      obtain ⟨fn, tmps, assign, body, hy, hR⟩ := HY.out m' _ #[.agg #[.int .i64 (L k).1, .int .u64 (L k).2]] (wr.alloc (.cells #[.int .i64 (L k).1, .int .u64 (L k).2] 47)) (HI.out _ _ _ _ HJ.out (Calm.alloc _ _ _)) ⟨k + 1, by omega, (encN_succ L k).symm⟩
      gi_wp2
      refine ⟨rfl, hR.mono ?_⟩
      rintro e W3 ⟨_, (⟨rfl, m2, _, hJ3⟩ | ⟨rfl, hJx3⟩)⟩
      · gi_wp2
        go_roundw
        case rel => exact ⟨k + 1, m2, by omega, by go_num, by rw [encN_succ]; exact hJ3⟩
        case measure => simp [intOf]; omega
      · gi_wp2
        refine bodyPost_ret (results_none rfl _ _ _) rfl ?_
        exact ⟨⟨_, rfl⟩, .inr hJx3⟩
    · have hkn : k = n := by omega
      gi_wp2
      go_end0
      exact ⟨⟨_, rfl⟩, .inl ⟨_, m', rfl, by rw [← hkn]; exact HJ.out⟩⟩

set_option maxHeartbeats 400000 in
theorem sl_values (ao : Option Addr) (n cap : Nat) (w : World) :
    Calls Try.prog 28 #[.slice ao n cap] w fun e w' => e = .returned (.func (.func 31) #[] #[.pointer (some ⟨w.heap.size, 0, none⟩)]) ∧ w' = w.alloc (.cells #[.slice ao n cap] 22) := by
  have hcf := enters_of Try.func31 (by kernel_rfl) rfl
  go_enter Try.func28, Try.ntmps28
  go_wp2
  go_ret
  exact ⟨rfl, rfl⟩

set_option maxHeartbeats 400000 in
theorem rc_each (F : Nat → Int) (w : World) :
    Calls Try.prog 20 #[.agg (arrF 24 F)] w fun e w' => e = .returned (.func (.func 27) #[] #[.pointer (some ⟨w.heap.size, 0, none⟩)]) ∧ w' = w.alloc (.cells (arrF 24 F) 25) := by
  have hcf := enters_of Try.func27 (by kernel_rfl) rfl
  go_enter Try.func20, Try.ntmps20
  go_wp2
  go_ret
  exact ⟨rfl, rfl⟩

theorem wpIn_load25 {Fc : Fence} {n : Nat} {dst : Option Tmp} {x : Operand} {ty : TypeId} {pos : String} {aft : Array Edge} {gd : Option (Nat × Bool)} {a : Act} {w : World} {K : Act → World → Prop} {Q : Exit → Act → World → Prop}
    (h : rowOk w (a.eval x) = true) :
    Oper.wpIn Fc n Try.prog { dst := dst, op := .load 25 x, type := ty, pos := pos, after := aft, guard := gd } a w K Q = K (a.put dst (rowVal w (a.eval x))) w := by
  generalize hv : a.eval x = v at *
  unfold rowOk at h
  split at h
  · rename_i g
    split at h
    · rename_i cs t f hg
      have hs : cs.size = 24 := by simpa using h
      have hr : rowVal w (.pointer (some ⟨g, 0, none⟩)) = .agg cs := by unfold rowVal; simp [hg]
      rw [hr]
      have hrun := run_loadVar_row (P := Try.prog) w g t 25 cs f _ hg Try.underlying25 rfl (by rw [hs]; exact sz25)
      have hex : (execOp a.eval { dst := dst, op := .load 25 x, type := ty, pos := pos, after := aft, guard := gd }).run Try.prog w = .ok (.value (.agg cs)) w := by
        simp only [execOp, hv, Instr.loadAt, Instr.sureAddr, Sem.run_bind, Sem.run_pure, Result.andThen_ok]
        rw [hrun]
        rfl
      unfold Oper.wpIn
      apply propext
      constructor
      · rintro ⟨_, h2⟩
        cases hq : Fc.round <;> simp only [hq, Oper.semAt] at h2 <;> rw [hex] at h2 <;> exact h2
      · intro h2
        refine ⟨fun f hf => (by cases hf), ?_⟩
        cases hq : Fc.round <;> simp only [Oper.semAt] <;> rw [hex] <;> exact h2
    · cases h
  · cases h
attribute [local go_sem ↓] wpIn_load25

def cntE (F : Nat → Int) : Nat := if unpE F = 0 then unpN F else 0
theorem enc_last {L : Nat → Int × Int} {n : Nat} {pre : List (Array Value)} {x : Array Value} (h : ∃ k, k ≤ n ∧ pre ++ [x] = encN L k) : ∃ k, k < n ∧ pre = encN L k ∧ x = #[.agg #[.int .i64 (L k).1, .int .u64 (L k).2]] := by
  obtain ⟨k, hk, he⟩ := h
  cases k with
  | zero => simp [encN] at he
  | succ k =>
    rw [encN_succ] at he
    obtain ⟨h1, h2⟩ := List.append_inj' he rfl
    exact ⟨k, by omega, h1, by simpa using h2⟩
theorem Steady.mono {N N' : Nat} {I : World → Prop} (h : Steady N I) (hN : N ≤ N') : Steady N' I := fun w w' hi c => h w w' hi (c.mono hN)
theorem Steady.cell {N : Nat} {p : Addr} {v : Value} : Steady N (fun W => W.cell? p = some v) := fun w w' h c => by
  have hl := World.block_lt_of_cell? _ _ h
  cases hb : w.heap[p.block]? with
  | none => simp [World.cell?, hb] at h
  | some o =>
    have hd : dataB o = true := by
      cases o <;> first | rfl | (simp [World.cell?, hb] at h)
    exact (World.cell?_of_block (w := w) ((c.block _ _ hb (.inr hd)).trans hb.symm)).trans h
theorem Steady.puts {N : Nat} {ao : Option Addr} {n : Nat} {L : Nat → Int × Int} : Steady N (fun W => Puts W ao n L) := fun w w' h c => by
  rcases h with h | ⟨b, off, h1, h2⟩
  · exact .inl h
  · exact .inr ⟨b, off, h1, fun i hi => ⟨Steady.cell _ _ (h2 i hi).1 c, Steady.cell _ _ (h2 i hi).2 c⟩⟩

end Go.Proofs.Yteaedcjnfigigaa
