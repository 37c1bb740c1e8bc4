/- Laws of single operations, in the form that a walk takes them. No program is named here. -/
import Derived.Test.YtjdojckemphadaaMaps
import Derived.Handy
import Derived.ScopeJumps
import Derived.Deep.AppendSrc
import Derived.Laws.EntriesVeiled
namespace Go.Proofs.Ytjdojckemphadaa
open Go Go.RowKit
section
variable {P : Program}

theorem wpList_append_run {ops : Array Oper} {rest : List Oper} {dst : Option Tmp} {s x : Operand} {t t' ty : TypeId} {pos : String} {aft : Array Edge} {a : Act} {w w' : World} {Q : Exit → Act → World → Prop} {v : Value}
    (h : (Builtin.append_ #[t, t'] ty #[a.eval s, a.eval x]).run P w = .ok v w') (hk : wpList P ops Q rest (a.put dst v) w') :
    wpList P ops Q ({ dst := dst, op := .call { callee := .builtin .append, args := #[s, x], argTypes := #[t, t'] }, type := ty, pos := pos, after := aft, guard := none } :: rest) a w := by
  refine wpList_plain rfl fun K hK => ?_
  unfold Oper.wp execOp
  simp only [resolve, invoke, builtin, Sem.run_bind, Sem.run_pure, Result.andThen_ok, List.map_toArray, List.map_cons, List.map_nil, h]
  exact hK _ _ hk

/-- A scope whose only label lies ahead of the jumps to it. -/
theorem wp_scope_ahead {c rest : Code} {Q : Exit → Act → World → Prop} {a : Act} {w : World} (l : Nat) (hf : findLabel c l = some rest)
    (h : c.wp P (Exit.jump l (fun a w => rest.wp P (Exit.noGoto Q) a w) Q) a w) : (Code.scope c).wp P Q a w :=
  wp_scope_jumps l _ (fun _ _ => 0) hf h fun a w hJ => wp_mono hJ fun e a w q => by cases e <;> first | exact q | exact q.elim
theorem jump_ret {l : Nat} {J : Act → World → Prop} {Q : Exit → Act → World → Prop} {a : Act} {w : World} : Exit.jump l J Q .ret a w = Q .ret a w := rfl
theorem jump_goto {l : Nat} {J : Act → World → Prop} {Q : Exit → Act → World → Prop} {a : Act} {w : World} : Exit.jump l J Q (.goto l) a w = (l = l ∧ J a w) := rfl

theorem ret_int {k : IntKind} {a b : Int} (h : a = b) : Ending.returned (.int k a) = Ending.returned (.int k b) := by rw [h]

theorem run_rangeMap' {w : World} {b : Nat} {l : Ents} (T K E : TypeId) (hT : P.underlying T = some (.map K E)) (h : IMap w b l) :
    ∃ w', (Instr.range T (.map (some b))).run P w = .ok (.pointer (some ⟨w.heap.size, 0, none⟩)) w' ∧ IRange w' w.heap.size b l ∧ Ext [] w w' ∧ w'.heap.size = w.heap.size + 1 := by
  obtain ⟨o, _, h1, h2⟩ := run_rangeMap T K E hT h
  exact ⟨_, h1, h2, (Ext.refl _ _).alloc _, by simp⟩

theorem next_any {w : World} {r b : Nat} {left : Ents} (h : IRange w r b left) :
    (left = [] ∧ ∀ ty, (Instr.next (.pointer (some ⟨r, 0, none⟩)) false ty).run P w = .ok (.tuple #[.bool false]) w) ∨
    ∃ k v left' w', (∀ ty, (Instr.next (.pointer (some ⟨r, 0, none⟩)) false ty).run P w = .ok (.tuple #[.bool true, .int .i64 k, v]) w') ∧
      (Instr.entry (.pointer (some ⟨r, 0, none⟩))).run P w' = .ok (.tuple #[.int .i64 k, v]) w' ∧
      left.Perm ((k, v) :: left') ∧ IRange w' r b left' ∧ Ext [r] w w' ∧ (∀ N, N ≤ r → Calm N w w') ∧ w'.heap.size = w.heap.size := by
  rcases run_nextMap' (P := P) 0 h with ⟨h1, h2⟩ | ⟨k, v, left', w', h1, h2⟩
  · exact .inl ⟨h1, fun _ => h2⟩
  · exact .inr ⟨k, v, left', w', fun _ => h1, h2⟩

/-- A row that lies in block g from its start on, n elements of size cells. -/
theorem holds_of_block {w : World} {g : Nat} {cs : Array Value} {e : TypeId} {f : Nat × Nat} (h : w.heap[g]? = some (.cells cs e f)) (xs : List Value) (hx : ∀ (j : Nat) (v : Value), xs[j]? = some v → cs[j]? = some v) :
    ∀ (j : Nat) (v : Value), xs[j]? = some v → w.cell? ((⟨g, 0, none⟩ : Addr).add j) = some v := fun j v hj => by
  have hadd : (⟨g, 0, none⟩ : Addr).add j = ⟨g, j, none⟩ := by unfold Addr.add; split <;> simp_all
  rw [hadd]; simp [World.cell?, h, hx j v hj]

/-- append into a new row: there was no room. -/
theorem append_grown (w : World) (t ty e : TypeId) (i : TypeInfo) (z : Value) (size bytes : Nat) (ht : P.underlying t = some (.slice e)) (hi : P.info? e = some i) (hz : i.zero = some z) (hsize : i.size = size) (hby : i.bytes = bytes)
    (b : Addr) (sLen sCap : Nat) (olds : List Value) (hlo : olds.length = sLen * size) (holds : ∀ (j : Nat) (v : Value), olds[j]? = some v → w.cell? (b.add j) = some v)
    (a : Addr) (n c : Nat) (news : List Value) (hl : news.length = n * size) (hnews : ∀ (j : Nat) (v : Value), news[j]? = some v → w.cell? (a.add j) = some v)
    (hg : sCap < sLen + n) (hb : (sLen + n) * bytes ≤ 140737488355328) (h63 : sLen + n ≤ 9223372036854775807) :
    ∃ cap W' rest, (Builtin.append_ #[t, t] ty #[.slice (some b) sLen sCap, .slice (some a) n c]).run P w = .ok (.slice (some ⟨w.heap.size, 0, none⟩) (sLen + n) cap) W' ∧
      Ext [] w W' ∧ W'.heap.size = w.heap.size + 1 ∧ sLen + n ≤ cap ∧ W'.heap[w.heap.size]? = some (.cells (olds ++ news ++ rest).toArray e (0, 0)) ∧ (olds ++ news ++ rest).length = (sLen + n) * size + rest.length := by
  subst hsize; subst hby
  refine ⟨_, _, (Builtin.zeroCells z.cells (grownCap w (sLen + n) sCap e - (sLen + n))).toList, run_append_grow w t ty e i z ht hi hz b sLen sCap olds hlo holds a n c news hl hnews hg (by omega) (growslice_fits hg hb), ((Ext.refl [] w).drew.alloc _), by simp, grownCap_ge _ _ _ _, ?_, ?_⟩
  · rw [show ((olds.toArray ++ news.toArray ++ Builtin.zeroCells z.cells (grownCap w (sLen + n) sCap e - (sLen + n))) : Array Value) = (olds ++ news ++ (Builtin.zeroCells z.cells (grownCap w (sLen + n) sCap e - (sLen + n))).toList).toArray from by simp]
    exact World.alloc_heap_new w.drew _
  · simp only [List.length_append, hlo, hl, Nat.add_mul]

theorem wpList_append_grown {ops : Array Oper} {rest : List Oper} {dst : Option Tmp} {s x : Operand} {ty : TypeId} {pos : String} {aft : Array Edge} {ac : Act} {w : World} {Q : Exit → Act → World → Prop}
    (t e : TypeId) (i : TypeInfo) (z : Value) (size bytes : Nat) (ht : P.underlying t = some (.slice e)) (hi : P.info? e = some i) (hz : i.zero = some z) (hsize : i.size = size) (hby : i.bytes = bytes)
    (b : Addr) (sLen sCap : Nat) (olds : List Value) (a : Addr) (n c : Nat) (news : List Value)
    (hs : ac.eval s = .slice (some b) sLen sCap) (hx : ac.eval x = .slice (some a) n c)
    (hlo : olds.length = sLen * size) (hl : news.length = n * size) (hg : sCap < sLen + n) (hb : (sLen + n) * bytes ≤ 140737488355328) (h63 : sLen + n ≤ 9223372036854775807)
    (holds : ∀ (j : Nat) (v : Value), olds[j]? = some v → w.cell? (b.add j) = some v) (hnews : ∀ (j : Nat) (v : Value), news[j]? = some v → w.cell? (a.add j) = some v)
    (h : ∀ cap W' more, Ext [] w W' → W'.heap.size = w.heap.size + 1 → sLen + n ≤ cap → W'.heap[w.heap.size]? = some (.cells (olds ++ news ++ more).toArray e (0, 0)) →
      wpList P ops Q rest (ac.put dst (.slice (some ⟨w.heap.size, 0, none⟩) (sLen + n) cap)) W') :
    wpList P ops Q ({ dst := dst, op := .call { callee := .builtin .append, args := #[s, x], argTypes := #[t, t] }, type := ty, pos := pos, after := aft, guard := none } :: rest) ac w := by
  obtain ⟨cap, W', more, hr, h1, h2, h3, h4, _⟩ := append_grown (P := P) w t ty e i z size bytes ht hi hz hsize hby b sLen sCap olds hlo holds a n c news hl hnews hg hb h63
  exact wpList_append_run (by rw [hs, hx]; exact hr) (h cap W' more h1 h2 h3 h4)

theorem cell_of {w : World} {g : Nat} {cs : Array Value} {e : TypeId} {f : Nat × Nat} (h : w.heap[g]? = some (.cells cs e f)) {j : Nat} {v : Value} (hv : cs[j]? = some v) : w.cell? ⟨g, j, none⟩ = some v := by
  simp [World.cell?, h, hv]
theorem cell_al {w : World} {o : Obj} {a : Addr} {v : Value} (h : w.cell? a = some v) : (w.alloc o).cell? a = some v := ((Ext.refl [] w).alloc o).cell h (by simp)
theorem block_al {w : World} {o x : Obj} {k : Nat} (h : w.heap[k]? = some x) : (w.alloc o).heap[k]? = some x := ((Ext.refl [] w).alloc o).at h (by simp)
theorem block_sc {w : World} {a : Addr} {v : Value} {x : Obj} {k : Nat} (hk : k ≠ a.block) (h : w.heap[k]? = some x) : (w.setCell a v).heap[k]? = some x := (Below.heap_setCell _ _ _ _ hk).trans h
theorem free_of {w : World} {g : Nat} {cs : Array Value} {e : TypeId} (h : w.heap[g]? = some (.cells cs e (0, 0))) (j : Nat) : w.frozen? ⟨g, j, none⟩ = false := by
  simp [World.frozen?, h]
end
end Go.Proofs.Ytjdojckemphadaa
