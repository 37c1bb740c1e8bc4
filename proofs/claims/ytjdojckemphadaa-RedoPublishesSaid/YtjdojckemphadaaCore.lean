/- General words of this seat's proofs: what a call leaves of the memory (Ext, Calm, Steady), and the law of a range over a function (SeqC, wp_range). No program is named here. -/
import Derived.WalkKit
import Derived.WalkLawsBesides
import Derived.WalkSpells
import Derived.Lib.Hide
import Derived.RangeFuncRecord
import Derived.RangeFuncSeq
import Derived.RangeFuncCalls
import Derived.Deep.QuietTactic
import Derived.BigQuiet
import Derived.OwnWalkIn
import Derived.TacticsInMore
import Derived.LoopNIn
import Derived.LoopIn
namespace Go.Proofs.Ytjdojckemphadaa
open Go Go.RowKit

/-- Between w and w' no block that was there has turned but those of m. -/
structure Ext (m : List Nat) (w w' : World) : Prop where
  os : w'.os = w.os
  tape : w'.tape = w.tape
  output : w'.output = w.output
  size : w.heap.size ≤ w'.heap.size
  block : ∀ k, k < w.heap.size → k ∉ m → w'.heap[k]? = w.heap[k]?

theorem Ext.refl (m : List Nat) (w : World) : Ext m w w := ⟨rfl, rfl, rfl, Nat.le_refl _, fun _ _ _ => rfl⟩
theorem Ext.trans' {m m' : List Nat} {a b c : World} (h : Ext m a b) (k : Ext m' b c) (hm : ∀ j, j ∈ m' → j ∈ m ∨ a.heap.size ≤ j) : Ext m a c :=
  ⟨k.os.trans h.os, k.tape.trans h.tape, k.output.trans h.output, Nat.le_trans h.size k.size, fun i hi hn =>
    (k.block i (Nat.lt_of_lt_of_le hi h.size) (fun hj => (hm i hj).elim hn (fun hl => by omega))).trans (h.block i hi hn)⟩
theorem Ext.trans {m : List Nat} {a b c : World} (h : Ext m a b) (k : Ext m b c) : Ext m a c := h.trans' k (fun _ hj => .inl hj)
theorem Ext.then {m : List Nat} {a b c : World} (h : Ext m a b) (k : Ext [] b c) : Ext m a c := h.trans' k (fun _ hj => by cases hj)
theorem Ext.mono {m m' : List Nat} {a b : World} (h : Ext m a b) (hm : ∀ j, j ∈ m → j ∈ m' ∨ a.heap.size ≤ j) : Ext m' a b := (Ext.refl m' a).trans' h hm
theorem Ext.wide {m : List Nat} {a b : World} (h : Ext [] a b) : Ext m a b := h.mono (fun _ hj => by cases hj)
theorem Ext.drew {m : List Nat} {a w : World} (h : Ext m a w) : Ext m a w.drew := ⟨h.os, h.tape, h.output, h.size, h.block⟩
theorem Ext.drewN {m : List Nat} {a w : World} (h : Ext m a w) (n : Nat) : Ext m a (w.drewN n) := ⟨h.os, h.tape, h.output, h.size, h.block⟩
theorem Ext.alloc {m : List Nat} {a w : World} (h : Ext m a w) (o : Obj) : Ext m a (w.alloc o) :=
  ⟨h.os, h.tape, h.output, by simp; exact Nat.le_succ_of_le h.size, fun k hk hn => (Below.heap_alloc _ _ _ (by have := h.size; omega)).trans (h.block k hk hn)⟩
theorem Ext.setCell {m : List Nat} {a w : World} (h : Ext m a w) {p : Addr} (hp : p.block ∈ m ∨ a.heap.size ≤ p.block) (u : Value) : Ext m a (w.setCell p u) :=
  ⟨h.os, h.tape, h.output, by simp [World.setCell]; exact h.size, fun k hk hn =>
    (Below.heap_setCell _ _ _ _ (fun e => by subst e; exact hp.elim hn (fun hl => by omega))).trans (h.block k hk hn)⟩
theorem Ext.put {m : List Nat} {a w : World} (h : Ext m a w) {r : Nat} (hr : r ∈ m ∨ a.heap.size ≤ r) (o : Obj) : Ext m a (w.putObj r o) :=
  ⟨h.os, h.tape, h.output, by simp; exact h.size, fun k hk hn =>
    (World.putObj_heap_other (fun e => by subst e; exact hr.elim hn (fun hl => by omega))).trans (h.block k hk hn)⟩
theorem Ext.of_grownBy {w w' : World} {row : Option Nat} {m : List Nat} (h : w.grownBy w' row) (hr : ∀ k, row = some k → k ∈ m ∨ w.heap.size ≤ k) : Ext m w w' :=
  ⟨h.os, h.tape, h.output, h.size, fun k hk hn => h.block k hk (fun e => (hr k e.symm).elim hn (fun hl => by omega))⟩
theorem Ext.grown {w : World} {w' : World} (h : w.grownBy w' none) : Ext [] w w' := .of_grownBy h (fun _ e => by cases e)
theorem Ext.grownBy {w w' : World} (h : Ext [] w w') : w.grownBy w' none := ⟨h.os, h.tape, h.output, h.size, fun k hk _ => h.block k hk (by simp)⟩
theorem Ext.below {w w' : World} (h : Ext [] w w') : Below w.heap.size w w' := ⟨h.os, h.tape, h.output, h.size, fun k hk => h.block k hk (by simp)⟩
theorem Ext.of_below {w w' : World} (h : Below w.heap.size w w') : Ext [] w w' := ⟨h.os, h.tape, h.output, h.size, fun k hk _ => h.block k hk⟩
theorem Ext.at {m : List Nat} {w w' : World} (h : Ext m w w') {k : Nat} {o : Obj} (hk : w.heap[k]? = some o) (hn : k ∉ m) : w'.heap[k]? = some o :=
  (h.block k (lt_of_block hk) hn).trans hk
theorem Ext.cell {m : List Nat} {w w' : World} (h : Ext m w w') {p : Addr} {v : Value} (hv : w.cell? p = some v) (hn : p.block ∉ m) : w'.cell? p = some v :=
  (World.cell?_of_block (w := w) (h.block _ (World.block_lt_of_cell? _ _ hv) hn)).trans hv
theorem Ext.frozen {m : List Nat} {w w' : World} (h : Ext m w w') {p : Addr} {b : Bool} (hv : w.frozen? p = b) (hl : p.block < w.heap.size) (hn : p.block ∉ m) : w'.frozen? p = b :=
  (World.frozen?_of_block (w := w) (h.block _ hl hn)).trans hv

/-- Rows of cells and maps: what data lie in. -/
def dataB : Obj → Bool
  | .cells .. => true
  | .map .. => true
  | _ => false

/-- From block N on, what is no data may turn; all else that there was stays. -/
structure Calm (N : Nat) (w w' : World) : Prop where
  os : w'.os = w.os
  tape : w'.tape = w.tape
  output : w'.output = w.output
  size : w.heap.size ≤ w'.heap.size
  block : ∀ k o, w.heap[k]? = some o → (k < N ∨ dataB o = true) → w'.heap[k]? = some o

theorem Calm.refl (N : Nat) (w : World) : Calm N w w := ⟨rfl, rfl, rfl, Nat.le_refl _, fun _ _ h _ => h⟩
theorem Calm.trans {N : Nat} {a b c : World} (h : Calm N a b) (k : Calm N b c) : Calm N a c :=
  ⟨k.os.trans h.os, k.tape.trans h.tape, k.output.trans h.output, Nat.le_trans h.size k.size, fun i o hi hd => k.block i o (h.block i o hi hd) hd⟩
theorem Calm.mono {N N' : Nat} {a b : World} (h : Calm N a b) (hN : N' ≤ N) : Calm N' a b := ⟨h.os, h.tape, h.output, h.size, fun k o hk hd => h.block k o hk (hd.imp (fun hl => Nat.lt_of_lt_of_le hl hN) id)⟩
theorem Ext.calm {w w' : World} (h : Ext [] w w') (N : Nat) : Calm N w w' := ⟨h.os, h.tape, h.output, h.size, fun k _ hk _ => h.at hk (by simp)⟩
theorem Calm.put {N : Nat} {w : World} {l : Nat} {o : Obj} (hl : w.heap[l]? = some o) (hd : dataB o = false) (hN : N ≤ l) (o' : Obj) : Calm N w (w.putObj l o') :=
  ⟨rfl, rfl, rfl, by simp, fun k x hk hx => (World.putObj_heap_other (fun e => by
    subst e; rw [hl] at hk; cases hk; rcases hx with hx | hx
    · omega
    · rw [hd] at hx; cases hx)).trans hk⟩
theorem Calm.alloc (N : Nat) (w : World) (o : Obj) : Calm N w (w.alloc o) := ((Ext.refl [] w).alloc o).calm N

/-- What abides whatever is Calm. -/
def Steady (N : Nat) (I : World → Prop) : Prop := ∀ w w', I w → Calm N w w' → I w'
theorem Steady.and {N : Nat} {I J : World → Prop} (h : Steady N I) (k : Steady N J) : Steady N (fun w => I w ∧ J w) := fun w w' ⟨a, b⟩ c => ⟨h w w' a c, k w w' b c⟩
theorem Steady.ex {α : Sort _} {N : Nat} {I : α → World → Prop} (h : ∀ x, Steady N (I x)) : Steady N (fun w => ∃ x, I x w) := fun w w' ⟨x, a⟩ c => ⟨x, h x w w' a c⟩
theorem Steady.const (N : Nat) (p : Prop) : Steady N (fun _ => p) := fun _ _ h _ => h
theorem Steady.block {N : Nat} {k : Nat} {o : Obj} (h : k < N ∨ dataB o = true) : Steady N (fun w => w.heap[k]? = some o) := fun _ _ hk c => c.block k o hk h
theorem Steady.size (N : Nat) (k : Nat) : Steady N (fun w => k ≤ w.heap.size) := fun _ _ h c => Nat.le_trans h c.size
theorem Steady.ext {N : Nat} {m : List Nat} {w0 : World} (hN : w0.heap.size ≤ N) : Steady N (fun w => Ext m w0 w) := fun w w' h c =>
  ⟨c.os.trans h.os, c.tape.trans h.tape, c.output.trans h.output, Nat.le_trans h.size c.size, fun k hk hn => by
    have hb := h.block k hk hn
    have hs : w0.heap[k]? = some w0.heap[k] := by simp [hk]
    rw [hs] at hb ⊢
    exact c.block k _ hb (.inl (by omega))⟩

theorem Ext.putL {m : List Nat} {a w : World} (h : Ext m a w) (l : Nat) (o : Obj) : Ext (l :: m) a (w.putObj l o) :=
  (h.mono (fun _ hj => .inl (List.mem_cons_of_mem _ hj))).put (.inl (List.mem_cons_self ..)) o
theorem Ext.sub {m m' : List Nat} {a b : World} (h : Ext m a b) (hm : ∀ j, j ∈ m → j ∈ m') : Ext m' a b := h.mono (fun j hj => .inl (hm j hj))

/-- m' bears no more than m and what came after w. -/
def Sub (w : World) (m m' : List Nat) : Prop := ∀ j, j ∈ m' → j ∈ m ∨ w.heap.size ≤ j
theorem Sub.refl (w : World) (m : List Nat) : Sub w m m := fun _ h => .inl h

/-- A function that calls yield: on the lists that Done says, as long as yield says so; KB: what it reads. m: the blocks that yield's bearer may write. -/
def SeqC (P : Program) (gf : Nat) (lb : Array Value) (Ok Done : List (Array Value) → Prop) (KB : World → Prop) : Prop :=
  ∀ (l N : Nat) (I : List Nat → List (Array Value) → World → Prop) (Ix : World → Prop),
    (∀ m pre, Steady N (I m pre)) → Steady N Ix → (∀ m pre w, I m pre w → KB w) →
    (∀ m pre x w, I m pre w → Ok (pre ++ [x]) → YieldAt Fence.wide 0 P l x w fun e w' => Ext (l :: m) w w' ∧ ((e = .returned (.bool true) ∧ ∃ m', Sub w m m' ∧ I m' (pre ++ [x]) w') ∨ (e = .returned (.bool false) ∧ Ix w'))) →
    ∀ w m, N ≤ w.heap.size → l < w.heap.size → (∀ j ∈ m, j < w.heap.size) → I m [] w →
      CallsIn Fence.wide 0 P gf (#[.func (.yield l) #[] #[]] ++ lb) w fun e w' => (∃ v, e = .returned v) ∧ ((∃ xs m', Done xs ∧ I m' xs w') ∨ Ix w')

/-- How a round's body may be left. -/
def roundPost' (m : List Nat) (W : World) (I : World → Prop) (Ix : Code → World → Prop) : Exit → Act → World → Prop
  | .normal, _, W' => Ext m W W' ∧ I W'
  | .ret, _, W' => Ext m W W' ∧ Ix .ret W'
  | .exit id, _, W' => Ext m W W' ∧ Ix (.exit id) W'
  | .goto t, _, W' => Ext m W W' ∧ Ix (.goto t) W'
  | .panic _, _, _ => False
  | .outgrown, _, _ => False

section
variable {P : Program}

/-- The record of a loop. -/
def recOf (fn : FuncId) (tmps : Array Value) (ps : Array Tmp) (assign body : Code) (D : Nat) (st : LoopState) (pe : Option Code) : Loop :=
  { state := st, pending := pe, fn, tmps, params := ps, assign, body, defers := D }

/-- ONE ROUND: the record is ready; the body is walked; the record says how it was left. -/
theorem round_of {N l D : Nat} {W : World} {fn : FuncId} {tmps : Array Value} {ps : Array Tmp} {assign body : Code} {dd : Nat} {m : List Nat}
    (hl : W.heap[l]? = some (.loop (recOf fn tmps ps assign body dd .ready none))) (hN : N ≤ l) (hD : W.heap[D]? = some (.deferred (some []))) (hlm : l ∉ m) (hDm : D ∉ m)
    {I : World → Prop} {Ix : Code → World → Prop} (hI : Steady N I) (hIx : ∀ c, Steady N (Ix c)) {a₁ : Act}
    {R : Ending → World → Prop}
    (hbody : ∀ W', Calm N W W' → body.wpIn (Fence.wide.inRound l) 0 P (roundPost' m W' I Ix) a₁ W')
    (hR : ∀ e W', Ext (l :: m) W W' ∧ (
      (e = .returned (.bool true) ∧ I W' ∧ W'.heap[l]? = some (.loop (recOf fn tmps ps assign body dd .ready none)) ∧ W'.heap[D]? = some (.deferred (some []))) ∨
      (e = .returned (.bool false) ∧ ∃ c, Ix c W' ∧ W'.heap[l]? = some (.loop (recOf fn tmps ps assign body dd .done (some c))) ∧ W'.heap[D]? = some (.deferred (some [])))) → R e W') :
    ∃ w₂, (Instr.beginRound l).run P W = .ok () w₂ ∧ body.wpIn (Fence.wide.inRound l) 0 P (roundPost P l R) a₁ w₂ := by
  have hlt : l < W.heap.size := lt_of_block hl
  have hne : D ≠ l := fun e => by subst e; rw [hl] at hD; cases hD
  refine ⟨_, run_beginRound hl rfl, ?_⟩
  have hl2 : (W.putObj l (.loop { recOf fn tmps ps assign body dd .ready none with state := .busy })).heap[l]? = some (.loop (recOf fn tmps ps assign body dd .busy none)) := World.putObj_heap_same hlt
  have hD2 : (W.putObj l (.loop { recOf fn tmps ps assign body dd .ready none with state := .busy })).heap[D]? = some (.deferred (some [])) := (World.putObj_heap_other hne).trans hD
  have hE0 : Ext (l :: m) W (W.putObj l (.loop { recOf fn tmps ps assign body dd .ready none with state := .busy })) := (Ext.refl m W).putL l _
  refine wpIn_mono (hbody _ (Calm.put hl rfl hN _)) ?_
  have fin : ∀ (jump : Option Code) (W3 : World), Ext m (W.putObj l (.loop { recOf fn tmps ps assign body dd .ready none with state := .busy })) W3 →
      (Instr.endRound l jump).run P W3 = .ok (.bool jump.isNone) (W3.putObj l (.loop (recOf fn tmps ps assign body dd (if jump.isNone then .ready else .done) jump))) ∧
      W3.heap[l]? = some (.loop (recOf fn tmps ps assign body dd .busy none)) ∧
      (W3.putObj l (.loop (recOf fn tmps ps assign body dd (if jump.isNone then .ready else .done) jump))).heap[l]? = some (.loop (recOf fn tmps ps assign body dd (if jump.isNone then .ready else .done) jump)) ∧
      (W3.putObj l (.loop (recOf fn tmps ps assign body dd (if jump.isNone then .ready else .done) jump))).heap[D]? = some (.deferred (some [])) ∧
      Ext (l :: m) W (W3.putObj l (.loop (recOf fn tmps ps assign body dd (if jump.isNone then .ready else .done) jump))) := fun jump W3 hk => by
    have hl3 := hk.at hl2 hlm
    have hD3 := hk.at hD2 hDm
    exact ⟨run_endRound (P := P) jump hl3, hl3, World.putObj_heap_same (lt_of_block hl3), (World.putObj_heap_other hne).trans hD3, hE0.trans (hk.putL l _)⟩
  rintro e a3 W3 hp
  cases e with
  | normal =>
    obtain ⟨hk, hi⟩ := hp
    obtain ⟨hr, hl3, hl4, hd4, hkp⟩ := fin none W3 hk
    exact ⟨_, _, hr, hR _ _ ⟨hkp, .inl ⟨rfl, hI _ _ hi (Calm.put hl3 rfl hN _), hl4, hd4⟩⟩⟩
  | ret =>
    obtain ⟨hk, hi⟩ := hp
    obtain ⟨hr, hl3, hl4, hd4, hkp⟩ := fin (some .ret) W3 hk
    exact ⟨_, _, hr, hR _ _ ⟨hkp, .inr ⟨rfl, .ret, hIx _ _ _ hi (Calm.put hl3 rfl hN _), hl4, hd4⟩⟩⟩
  | exit id =>
    obtain ⟨hk, hi⟩ := hp
    obtain ⟨hr, hl3, hl4, hd4, hkp⟩ := fin (some (.exit id)) W3 hk
    exact ⟨_, _, hr, hR _ _ ⟨hkp, .inr ⟨rfl, .exit id, hIx _ _ _ hi (Calm.put hl3 rfl hN _), hl4, hd4⟩⟩⟩
  | goto t =>
    obtain ⟨hk, hi⟩ := hp
    obtain ⟨hr, hl3, hl4, hd4, hkp⟩ := fin (some (.goto t)) W3 hk
    exact ⟨_, _, hr, hR _ _ ⟨hkp, .inr ⟨rfl, .goto t, hIx _ _ _ hi (Calm.put hl3 rfl hN _), hl4, hd4⟩⟩⟩
  | panic ch => exact hp.elim
  | outgrown => exact hp.elim

/-- A RANGE OVER A FUNCTION, outermost in its function. -/
theorem wp_range {g : Operand} {ps : Array Tmp} {assign body : Code} {Q : Exit → Act → World → Prop} {a : Act} {w : World}
    {gf : Nat} {lb : Array Value} (hg : a.eval g = .func (.func gf) #[] lb) (eg : ∀ args w, (callFunc gf args).run P w = .ok (.enter gf args) w)
    {Ok Done : List (Array Value) → Prop} {KB : World → Prop} (hseq : SeqC P gf lb Ok Done KB) (hps : ∀ pre x, Ok (pre ++ [x]) → x.size = ps.size)
    (m₀ : List Nat) (I : List Nat → List (Array Value) → World → Prop) (Ix : Code → World → Prop)
    (hI : ∀ m pre, Steady w.heap.size (I m pre)) (hIx : ∀ c, Steady w.heap.size (Ix c)) (hK : ∀ m pre W, I m pre W → KB W) (hm₀ : ∀ j ∈ m₀, j < w.heap.size) (h0 : I m₀ [] w)
    (hround : ∀ (l : Nat) (m : List Nat) (pre : List (Array Value)) (x : Array Value) (W : World), w.heap.size ≤ l → I m pre W → Ok (pre ++ [x]) →
      ∀ K : Act → World → Prop,
        (∀ a₁ W₁, Ext [] W W₁ → (∀ W', Calm w.heap.size W₁ W' → body.wpIn (Fence.wide.inRound l) 0 P (roundPost' m W' (fun W3 => ∃ m', Sub W m m' ∧ I m' (pre ++ [x]) W3) Ix) a₁ W') → K a₁ W₁) →
        assign.wpIn (Fence.wide.inRound l) 0 P (Exit.then K (fun _ _ _ => False)) { tmps := (ps.zip x).foldl (fun t (p, v) => t.setIfInBounds p v) a.tmps, defers := [] } W)
    (hdone : ∀ (D : Nat) (m : List Nat) (xs : List (Array Value)) (W : World), w.heap.size ≤ D → Done xs → I m xs W → W.heap[D]? = some (.deferred (some [])) → Q .normal { a with defers := { target := .collected D, args := #[] } :: a.defers } W)
    (hstop : ∀ (D : Nat) (c : Code) (W : World), w.heap.size ≤ D → Ix c W → W.heap[D]? = some (.deferred (some [])) → c.wpIn Fence.wide 0 P Q { a with defers := { target := .collected D, args := #[] } :: a.defers } W) :
    (Code.rangeFunc g ps assign body).wpIn Fence.wide 0 P Q a w := by
  refine wpIn_rangeFunc ?_
  intro fn hfn
  obtain ⟨W1, hW1⟩ : ∃ W1, (w.alloc (.deferred (some []))).alloc (.loop (recOf fn a.tmps ps assign body w.heap.size .ready none)) = W1 := ⟨_, rfl⟩
  have hL1 : W1.heap[w.heap.size + 1]? = some (.loop (recOf fn a.tmps ps assign body w.heap.size .ready none)) := by
    rw [← hW1]; have := World.alloc_heap_new (w.alloc (.deferred (some []))) (.loop (recOf fn a.tmps ps assign body w.heap.size .ready none)); rwa [World.size_alloc] at this
  have hK1 : W1.heap[w.heap.size]? = some (.deferred (some [])) := by
    rw [← hW1]; exact (Below.heap_alloc _ _ _ (by simp)).trans (World.alloc_heap_new w _)
  have hs1 : W1.heap.size = w.heap.size + 2 := by rw [← hW1]; simp
  have hI1 : I m₀ [] W1 := by rw [← hW1]; exact hI _ _ _ _ (hI _ _ _ _ h0 (Calm.alloc _ _ _)) (Calm.alloc _ _ _)
  refine ⟨w.heap.size + 1, [{ target := .collected w.heap.size, args := #[] }], W1, { target := .fn (.func gf) lb, args := #[.func (.yield (w.heap.size + 1)) #[] #[]] }, W1, gf,
    #[.func (.yield (w.heap.size + 1)) #[] #[]] ++ lb, W1, ?_, ?_, fun _ _ => trivial, ?_, (fun h => by cases h), ?_⟩
  · rw [← hW1]; exact run_enterLoop_outer _ _ _ _ _
  · simp only [resolve, hg]
    simp [go_sem]
  · simp [invoke, go_sem, eg]
  · refine (hseq (w.heap.size + 1) W1.heap.size
      (fun m pre W => I m pre W ∧ W.heap[w.heap.size + 1]? = some (.loop (recOf fn a.tmps ps assign body w.heap.size .ready none)) ∧ W.heap[w.heap.size]? = some (.deferred (some [])) ∧ (∀ j ∈ m, j ≠ w.heap.size ∧ j ≠ w.heap.size + 1))
      (fun W => ∃ c, Ix c W ∧ W.heap[w.heap.size + 1]? = some (.loop (recOf fn a.tmps ps assign body w.heap.size .done (some c))) ∧ W.heap[w.heap.size]? = some (.deferred (some [])))
      (fun m pre => fun A B ⟨h1, h2, h3, h4⟩ c => ⟨hI _ _ _ _ h1 (c.mono (by omega)), c.block _ _ h2 (.inl (by omega)), c.block _ _ h3 (.inl (by omega)), h4⟩)
      (fun A B ⟨j, h1, h2, h3⟩ c => ⟨j, hIx _ _ _ h1 (c.mono (by omega)), c.block _ _ h2 (.inl (by omega)), c.block _ _ h3 (.inl (by omega))⟩)
      (fun m pre W h => hK m pre W h.1) ?_ W1 m₀ (Nat.le_refl _) (by omega) (fun j hj => by have := hm₀ j hj; omega) ⟨hI1, hL1, hK1, fun j hj => by have := hm₀ j hj; omega⟩).mono ?_
    · rintro m pre x W ⟨hi, hl, hk, hm⟩ hok
      have hy := run_yield (P := P) (args := x) hl (hps pre x hok)
      refine ⟨fn, _, assign, body, hy, ?_⟩
      refine roundIn_of_wpIn trivial (hround (w.heap.size + 1) m pre x W (by omega) hi hok _ ?_)
      intro a₁ W₁ hc1 hbody
      have hlW := lt_of_block hl
      refine round_of (hc1.at hl (by simp)) (Nat.le_succ _) (hc1.at hk (by simp)) (fun h => (hm _ h).2 rfl) (fun h => (hm _ h).1 rfl) (.ex fun m' => (Steady.const _ _).and (hI _ _)) hIx hbody ?_
      rintro e W' ⟨hkp, (⟨he, ⟨m', hs', hi'⟩, hl', hd'⟩ | ⟨he, c, hi', hl', hd'⟩)⟩
      · exact ⟨hc1.wide.trans hkp, .inl ⟨he, m', hs', hi', hl', hd', fun j hj => (hs' j hj).elim (hm j) (fun h => by omega)⟩⟩
      · exact ⟨hc1.wide.trans hkp, .inr ⟨he, c, hi', hl', hd'⟩⟩
    · rintro e W2 ⟨⟨v, rfl⟩, (⟨xs, m', hS, hi, hl, hk, _⟩ | ⟨c, hi, hl, hk⟩)⟩
      · exact ⟨none, _, run_endLoop (P := P) hl (by simp [recOf]), hdone _ m' xs _ (Nat.le_refl _) hS (hI _ _ _ _ hi (Calm.put hl rfl (Nat.le_succ _) _)) ((World.putObj_heap_other (by omega)).trans hk)⟩
      · exact ⟨some c, _, run_endLoop (P := P) hl (by simp [recOf]), hstop _ c _ (Nat.le_refl _) (hIx _ _ _ hi (Calm.put hl rfl (Nat.le_succ _) _)) ((World.putObj_heap_other (by omega)).trans hk)⟩

/-- Stepping out of a function whose activation bears a range's mark. -/
theorem leaves_mark {fn : Func} {tmps : Array Value} {R : Ending → World → Prop} {D : Nat} {w : World} {v : Value}
    (hD : w.heap[D]? = some (.deferred (some []))) (hr : (results fn tmps).run P (w.putObj D (.deferred none)) = .ok v (w.putObj D (.deferred none)))
    (hR : R (.returned v) (w.putObj D (.deferred none))) : LeavesInM Fence.wide 0 P fn tmps R [{ target := .collected D, args := #[] }] .returning w := by
  refine ⟨by simp, .inl ⟨_, _, rfl, run_takeDeferred hD, ?_⟩⟩
  exact ⟨_, hr, hR⟩
end
end Go.Proofs.Ytjdojckemphadaa
