/- Package alloc: pools, and what one asks of them. -/
import Derived.Test.YtgpoplnfhlfogaaAlB
namespace Go.Proofs.Ytgpoplnfhlfogaa
open Go Go.RowKit Go.Shelf

/-- the pool's lines: what the map says of each -/
def Lines (w : World) (mb : Nat) (S : Lns) : Prop := ∃ l, IMap w mb l ∧ ∀ k, (look l k).getD (.agg #[.bool false, .int .i64 0]) = .agg #[.bool (S k).1, .int .i64 (S k).2]
/-- a pool lies in block c, its lines in block mb -/
def Pool (w : World) (c mb : Nat) (lo hi : Int) (S : Lns) : Prop := w.heap[c]? = some (.cells #[.int .i64 lo, .int .i64 hi, .map (some mb)] 65 (0, 0)) ∧ Lines w mb S
theorem Lines.ext {m : List Nat} {w w' : World} {mb : Nat} {S : Lns} (h : Lines w mb S) (hE : Ext m w w') (hm : mb ∉ m) : Lines w' mb S := by
  obtain ⟨l, h1, h2⟩ := h
  exact ⟨l, h1.ext hE hm, h2⟩
theorem Pool.ext {m : List Nat} {w w' : World} {c mb : Nat} {lo hi : Int} {S : Lns} (h : Pool w c mb lo hi S) (hE : Ext m w w') (hc : c ∉ m) (hm : mb ∉ m) : Pool w' c mb lo hi S := ⟨hE.at h.1 hc, h.2.ext hE hm⟩
theorem Lines.lt {w : World} {mb : Nat} {S : Lns} (h : Lines w mb S) : mb < w.heap.size := by obtain ⟨l, h1, _⟩ := h; exact h1.lt

theorem eqlMapL (m : Nat) (w : World) : (binOp .eql 63 (.map (some m)) (.map none)).run Try.prog w = .ok (.bool false) w := run_eql_map_nil _ _ _ _ (some m) Try.underlying63
set_option maxHeartbeats 400000 in
theorem al_none (c mb : Nat) (lo hi : Int) (S : Lns) (w : World) (h : Pool w c mb lo hi S) :
    Calls Try.prog 68 #[.pointer (some ⟨c, 0, none⟩)] w fun e w' => e = .returned (.bool false) ∧ w = w' := by
  have he := eqlMapL
  have h1 := cell_of (j := 2) (v := .map (some mb)) h.1 rfl
  clear h
  go_enter Try.func68, Try.ntmps68
  go_wp2
  go_ret
  exact ⟨rfl, rfl⟩

theorem zeroLine (w : World) : (zeroValue 114).run Try.prog w = .ok (.agg #[.bool false, .int .i64 0]) w := by kernel_rfl
theorem look_line {w : World} {mb : Nat} {S : Lns} (h : Lines w mb S) (k : Int) : (Instr.lookup 63 (.map (some mb)) (.int .i64 k) false).run Try.prog w = .ok (.agg #[.bool (S k).1, .int .i64 (S k).2]) w := by
  obtain ⟨l, h1, h2⟩ := h
  rw [run_look_at 63 3 114 (.agg #[.bool false, .int .i64 0]) Try.underlying63 Try.underlying3 (zeroLine w) h1 k, h2 k]

theorem line_f0 (t : Bool) (u : Int) (w : World) : (Instr.field 114 (.agg #[.bool t, .int .i64 u]) 0).run Try.prog w = .ok (.bool t) w := by kernel_rfl
theorem line_f1 (t : Bool) (u : Int) (w : World) : (Instr.field 114 (.agg #[.bool t, .int .i64 u]) 1).run Try.prog w = .ok (.int .i64 u) w := by kernel_rfl
set_option maxRecDepth 100000 in
set_option maxHeartbeats 1000000 in
theorem al_Taken (c mb : Nat) (lo hi : Int) (S : Lns) (k : Int) (w : World) (h : Pool w c mb lo hi S) :
    Calls Try.prog 37 #[.pointer (some ⟨c, 0, none⟩), .int .i64 k] w fun e w' => e = .returned (.bool (S k).1) ∧ w = w' := by
  have HN := Lib.hid (al_none c mb lo hi S w h)
  have hl := look_line h.2 k
  have hfd := line_f0
  have h1 := cell_of (j := 2) (v := .map (some mb)) h.1 rfl
  clear h
  generalize (S k).1 = t at *
  generalize (S k).2 = u at *
  go_enter Try.func37, Try.ntmps37
  go_wp2_with fail
  refine HN.out.mono ?_
  rintro e w' ⟨rfl, rfl⟩
  go_wp2
  go_ret
  exact ⟨rfl, rfl⟩

set_option maxRecDepth 100000 in
set_option maxHeartbeats 1000000 in
theorem al_free1 (bp c mb : Nat) (lo hi : Int) (S : Lns) (k : Int) (w : World) (hp : w.cell? ⟨bp, 0, none⟩ = some (.pointer (some ⟨c, 0, none⟩))) (h : Pool w c mb lo hi S) :
    Calls Try.prog 70 #[.int .i64 k, .pointer (some ⟨bp, 0, none⟩)] w fun e w' => e = .returned (.bool (!(S k).1)) ∧ Ext [] w w' := by
  have HT := Lib.hid (al_Taken c mb lo hi S k w h)
  clear h
  generalize (S k).1 = t at *
  go_enter Try.func70, Try.ntmps70
  go_wp2_with fail
  refine HT.out.mono ?_
  rintro e w' ⟨rfl, rfl⟩
  go_wp2
  go_ret
  exact ⟨rfl, Ext.refl _ _⟩
set_option maxRecDepth 100000 in
set_option maxHeartbeats 1000000 in
theorem al_take1 (bp c mb : Nat) (lo hi : Int) (S : Lns) (k : Int) (w : World) (hp : w.cell? ⟨bp, 0, none⟩ = some (.pointer (some ⟨c, 0, none⟩))) (h : Pool w c mb lo hi S) :
    Calls Try.prog 72 #[.int .i64 k, .pointer (some ⟨bp, 0, none⟩)] w fun e w' => e = .returned (.bool (!(S k).1)) ∧ Ext [] w w' := by
  have HT := Lib.hid (al_Taken c mb lo hi S k w h)
  clear h
  generalize (S k).1 = t at *
  go_enter Try.func72, Try.ntmps72
  go_wp2_with fail
  refine HT.out.mono ?_
  rintro e w' ⟨rfl, rfl⟩
  go_wp2
  go_ret
  exact ⟨rfl, Ext.refl _ _⟩

set_option maxHeartbeats 400000 in
theorem al_those (lo hi : Int) (sf : Nat) (slb : Array Value) (w : World) :
    Calls Try.prog 69 #[.agg #[.int .i64 lo, .int .i64 hi], .func (.func sf) #[] slb] w fun e w' => e = .returned (.func (.func 106) #[] #[.pointer (some ⟨w.heap.size, 0, none⟩), .pointer (some ⟨w.heap.size + 1, 0, none⟩)]) ∧
      w' = (w.alloc (.cells #[.int .i64 lo, .int .i64 hi] 62)).alloc (.cells #[.func (.func sf) #[] slb] 69) := by
  have hcf := enters_of Try.func106 (by kernel_rfl) rfl
  go_enter Try.func69, Try.ntmps69
  go_wp2
  go_ret
  exact ⟨rfl, rfl⟩
end Go.Proofs.Ytgpoplnfhlfogaa
