/- Maps keyed by int: what the model's operations do to them, with the entries as a list of pairs in stored order. No program is named here. -/
import Derived.Test.YtjdojckemphadaaCore
namespace Go.Proofs.Ytjdojckemphadaa
open Go Go.RowKit

abbrev Ents := List (Int × Value)

/-- the first entry at k -/
def look : Ents → Int → Option Value
  | [], _ => none
  | (a, v) :: l, k => if k = a then some v else look l k
/-- the entries with v at k: in its place, or behind all others -/
def upd : Ents → Int → Value → Ents
  | [], k, v => [(k, v)]
  | (a, x) :: l, k, v => if k = a then (k, v) :: l else (a, x) :: upd l k v
/-- the entries without the one at k -/
def del : Ents → Int → Ents
  | [], _ => []
  | (a, x) :: l, k => if k = a then l else (a, x) :: del l k

abbrev keysOf (l : Ents) : List Int := l.map (·.1)

theorem look_upd (l : Ents) (k : Int) (v : Value) (j : Int) : look (upd l k v) j = if j = k then some v else look l j := by
  induction l with
  | nil => simp [upd, look]
  | cons p l ih =>
    obtain ⟨a, x⟩ := p
    by_cases h : k = a
    · subst h; simp only [upd, if_true, look]; split <;> simp_all
    · simp only [upd, if_neg h, look, ih]; by_cases h1 : j = a <;> by_cases h2 : j = k <;> simp_all
theorem mem_keys_upd (l : Ents) (k : Int) (v : Value) (j : Int) : j ∈ keysOf (upd l k v) ↔ j = k ∨ j ∈ keysOf l := by
  induction l with
  | nil => simp [upd]
  | cons p l ih =>
    obtain ⟨a, x⟩ := p
    by_cases h : k = a
    · subst h; simp [upd]
    · simp only [upd, if_neg h, List.map_cons, List.mem_cons, ih]
      constructor
      · rintro (h1 | h1 | h1)
        · exact .inr (.inl h1)
        · exact .inl h1
        · exact .inr (.inr h1)
      · rintro (h1 | h1 | h1)
        · exact .inr (.inl h1)
        · exact .inl h1
        · exact .inr (.inr h1)
theorem nodup_upd (l : Ents) (k : Int) (v : Value) (h : (keysOf l).Nodup) : (keysOf (upd l k v)).Nodup := by
  induction l with
  | nil => simp [upd]
  | cons p l ih =>
    obtain ⟨a, x⟩ := p
    simp only [List.map_cons, List.nodup_cons] at h
    by_cases hk : k = a
    · subst hk; simp only [upd, if_true, List.map_cons, List.nodup_cons]; exact h
    · simp only [upd, if_neg hk, List.map_cons, List.nodup_cons]
      exact ⟨fun hm => ((mem_keys_upd l k v a).1 hm).elim (fun e => hk e.symm) h.1, ih h.2⟩
theorem look_none (l : Ents) (k : Int) : look l k = none ↔ k ∉ keysOf l := by
  induction l with
  | nil => simp [look]
  | cons p l ih =>
    obtain ⟨a, x⟩ := p
    by_cases h : k = a <;> simp [look, h, ih]
theorem look_some_mem (l : Ents) (k : Int) (v : Value) (h : look l k = some v) : (k, v) ∈ l := by
  induction l with
  | nil => simp [look] at h
  | cons p l ih =>
    obtain ⟨a, x⟩ := p
    by_cases hk : k = a
    · simp [look, hk] at h; subst h; simp [hk]
    · simp [look, hk] at h; exact List.mem_cons_of_mem _ (ih h)
theorem look_of_mem (l : Ents) (k : Int) (v : Value) (hn : (keysOf l).Nodup) (h : (k, v) ∈ l) : look l k = some v := by
  induction l with
  | nil => cases h
  | cons p l ih =>
    obtain ⟨a, x⟩ := p
    simp only [List.map_cons, List.nodup_cons] at hn
    rcases List.mem_cons.1 h with h1 | h1
    · cases h1; simp [look]
    · have : k ≠ a := fun e => hn.1 (List.mem_map.2 ⟨(k, v), h1, e⟩)
      simp only [look, if_neg this]; exact ih hn.2 h1
theorem mem_keys_del (l : Ents) (k : Int) (hn : (keysOf l).Nodup) (j : Int) : j ∈ keysOf (del l k) ↔ j ≠ k ∧ j ∈ keysOf l := by
  induction l with
  | nil => simp [del]
  | cons p l ih =>
    obtain ⟨a, x⟩ := p
    simp only [List.map_cons, List.nodup_cons] at hn
    by_cases h : k = a
    · subst h
      simp only [del, if_true, List.map_cons, List.mem_cons]
      exact ⟨fun hj => ⟨fun e => hn.1 (e ▸ hj), .inr hj⟩, fun ⟨h1, h2⟩ => h2.resolve_left h1⟩
    · simp only [del, if_neg h, List.map_cons, List.mem_cons, ih hn.2]
      constructor
      · rintro (h1 | ⟨h1, h2⟩)
        · exact ⟨fun e => h (e ▸ h1), .inl h1⟩
        · exact ⟨h1, .inr h2⟩
      · rintro ⟨h1, h2 | h2⟩
        · exact .inl h2
        · exact .inr ⟨h1, h2⟩
theorem nodup_del (l : Ents) (k : Int) (h : (keysOf l).Nodup) : (keysOf (del l k)).Nodup := by
  induction l with
  | nil => simp [del]
  | cons p l ih =>
    obtain ⟨a, x⟩ := p
    simp only [List.map_cons, List.nodup_cons] at h
    by_cases hk : k = a
    · subst hk; simp only [del, if_true]; exact h.2
    · simp only [del, if_neg hk, List.map_cons, List.nodup_cons]
      exact ⟨fun hm => h.1 ((mem_keys_del l k h.2 a).1 hm).2, ih h.2⟩
theorem look_del (l : Ents) (k : Int) (hn : (keysOf l).Nodup) (j : Int) : look (del l k) j = if j = k then none else look l j := by
  by_cases h : j = k
  · subst h; rw [if_pos rfl, look_none, mem_keys_del l j hn]; simp
  · rw [if_neg h]
    induction l with
    | nil => simp [del]
    | cons p l ih =>
      obtain ⟨a, x⟩ := p
      simp only [List.map_cons, List.nodup_cons] at hn
      by_cases hk : k = a
      · subst hk; simp [del, look, h]
      · simp only [del, if_neg hk, look, ih hn.2]

/-- the entries as the model stores them -/
def Rep (es : List MapEntry) (l : Ents) : Prop := es.map (fun e => (e.key, e.val)) = l.map (fun p => (Value.int .i64 p.1, p.2))

/-- block b is a map with these entries -/
def IMap (w : World) (b : Nat) (l : Ents) : Prop :=
  ∃ es clock, w.heap[b]? = some (.map es clock) ∧ Rep es.toList l ∧ (keysOf l).Nodup ∧ (es.toList.map (·.born)).Nodup ∧ ∀ e ∈ es.toList, e.born < clock

theorem IMap.nodup {w : World} {b : Nat} {l : Ents} (h : IMap w b l) : (keysOf l).Nodup := by obtain ⟨_, _, _, _, h, _⟩ := h; exact h
theorem IMap.lt {w : World} {b : Nat} {l : Ents} (h : IMap w b l) : b < w.heap.size := by obtain ⟨_, _, h, _⟩ := h; exact lt_of_block h
theorem IMap.ext {m : List Nat} {w w' : World} {b : Nat} {l : Ents} (h : IMap w b l) (he : Ext m w w') (hn : b ∉ m) : IMap w' b l := by
  obtain ⟨es, c, hb, r⟩ := h; exact ⟨es, c, he.at hb hn, r⟩
theorem IMap.steady {N b : Nat} {l : Ents} : Steady N (fun w => IMap w b l) := fun _ _ ⟨es, c, hb, r⟩ k => ⟨es, c, k.block _ _ hb (.inr rfl), r⟩
theorem IMap.made (w : World) : IMap (w.alloc (.map #[] 0)) w.heap.size [] := ⟨#[], 0, World.alloc_heap_new _ _, rfl, List.nodup_nil, List.nodup_nil, fun e he => by cases he⟩
theorem IMap.drew {w : World} {b : Nat} {l : Ents} (h : IMap w b l) : IMap w.drew b l := h
theorem IMap.alloc {w : World} {b : Nat} {l : Ents} (h : IMap w b l) (o : Obj) : IMap (w.alloc o) b l := h.ext ((Ext.refl [] w).alloc o) (by simp)
theorem IMap.setCell {w : World} {b : Nat} {l : Ents} (h : IMap w b l) {a : Addr} (ha : b ≠ a.block) (v : Value) : IMap (w.setCell a v) b l := by
  obtain ⟨es, c, hb, r⟩ := h; exact ⟨es, c, (Below.heap_setCell _ _ _ _ ha).trans hb, r⟩
theorem IMap.notcell {w : World} {b : Nat} {l : Ents} (h : IMap w b l) {a : Addr} {v : Value} (hc : w.cell? a = some v) : b ≠ a.block := fun e => by
  obtain ⟨es, c, hb, _⟩ := h; subst e; simp [World.cell?, hb] at hc

section
variable {P : Program}

theorem Rep.nil_left {l : Ents} (h : Rep [] l) : l = [] := by cases l with | nil => rfl | cons p l => cases h
theorem Rep.cons {e : MapEntry} {es : List MapEntry} {l : Ents} (h : Rep (e :: es) l) : ∃ k v l', l = (k, v) :: l' ∧ e.key = .int .i64 k ∧ e.val = v ∧ Rep es l' := by
  cases l with
  | nil => simp [Rep] at h
  | cons p l => obtain ⟨k, v⟩ := p; simp only [Rep, List.map_cons, List.cons.injEq, Prod.mk.injEq] at h; exact ⟨k, v, l, rfl, h.1.1, h.1.2, h.2⟩
theorem Rep.length {es : List MapEntry} {l : Ents} (h : Rep es l) : es.length = l.length := by simpa using congrArg List.length h

theorem findNow_rep (q : IntKind) (k : Int) : ∀ (es : List MapEntry) (l : Ents) (i : Nat), Rep es l →
    (look l k = none ∧ Instr.findNow (.int q) (.int .i64 k) es i = some none) ∨
    ∃ j v, look l k = some v ∧ Instr.findNow (.int q) (.int .i64 k) es i = some (some (i + j, v)) ∧ j < es.length ∧ (es[j]?).map (·.key) = some (.int .i64 k)
  | [], l, i, h => by rw [h.nil_left]; exact .inl ⟨rfl, rfl⟩
  | e :: es, l, i, h => by
    obtain ⟨a, v, l', rfl, hk, hv, h'⟩ := h.cons
    by_cases hka : k = a
    · subst hka
      refine .inr ⟨0, v, by simp [look], ?_, by simp, by simp [hk]⟩
      simp [Instr.findNow, hk, Instr.sameNow, hv]
    · have hf : Instr.findNow (.int q) (.int .i64 k) (e :: es) i = Instr.findNow (.int q) (.int .i64 k) es (i + 1) := by
        have hkb : (k == a) = false := by simpa using hka
        simp only [Instr.findNow, hk, Instr.sameNow, if_true, hkb]
      rw [hf]
      rcases findNow_rep q k es l' (i + 1) h' with ⟨h1, h2⟩ | ⟨j, v', h1, h2, h3, h4⟩
      · exact .inl ⟨by simp [look, hka, h1], h2⟩
      · exact .inr ⟨j + 1, v', by simp [look, hka, h1], by rw [h2]; congr 3; omega, by simpa using h3, by simpa using h4⟩

theorem run_checkKey_int (e : Bool) (n : Nat) (K : TypeId) (k : Int) (w : World) (hK : P.underlying K = some (.int .i64)) : (Instr.checkKey e (n + 1) K (.int .i64 k)).run P w = .ok () w := by
  simp [Instr.checkKey, run_underlying hK]

theorem run_look {w : World} {b : Nat} {l : Ents} (T K E : TypeId) (z : Value) (hT : P.underlying T = some (.map K E)) (hK : P.underlying K = some (.int .i64)) (hz : (zeroValue E).run P w = .ok z w)
    (h : IMap w b l) (k : Int) (ok : Bool) :
    (Instr.lookup T (.map (some b)) (.int .i64 k) ok).run P w = .ok (if ok then .tuple #[(look l k).getD z, .bool (look l k).isSome] else (look l k).getD z) w := by
  obtain ⟨es, c, hb, hr, _⟩ := h
  have hg : (getObj b).run P w = .ok (.map es c) w := by simp [getObj, Sem.run, hb]
  rcases findNow_rep .i64 k es.toList l 0 hr with ⟨h1, h2⟩ | ⟨j, v, h1, h2, _⟩
  · simp only [Instr.lookup, Sem.run_bind, run_underlying hT, Result.andThen_ok, hg, run_checkKey_int _ 9999 K k w hK, Instr.findKey, run_underlying hK, h2, Sem.run_pure, hz, h1]
    cases ok <;> rfl
  · simp only [Instr.lookup, Sem.run_bind, run_underlying hT, Result.andThen_ok, hg, run_checkKey_int _ 9999 K k w hK, Instr.findKey, run_underlying hK, h2, Sem.run_pure, h1]
    cases ok <;> rfl

theorem run_look_ok {w : World} {b : Nat} {l : Ents} (T K E : TypeId) (z : Value) (hT : P.underlying T = some (.map K E)) (hK : P.underlying K = some (.int .i64)) (hz : (zeroValue E).run P w = .ok z w)
    (h : IMap w b l) (k : Int) : (Instr.lookup T (.map (some b)) (.int .i64 k) true).run P w = .ok (.tuple #[(look l k).getD z, .bool (look l k).isSome]) w := by
  simpa using run_look T K E z hT hK hz h k true
theorem run_look_at {w : World} {b : Nat} {l : Ents} (T K E : TypeId) (z : Value) (hT : P.underlying T = some (.map K E)) (hK : P.underlying K = some (.int .i64)) (hz : (zeroValue E).run P w = .ok z w)
    (h : IMap w b l) (k : Int) : (Instr.lookup T (.map (some b)) (.int .i64 k) false).run P w = .ok ((look l k).getD z) w := by
  simpa using run_look T K E z hT hK hz h k false

theorem Rep.snoc {es : List MapEntry} {l : Ents} (h : Rep es l) (k : Int) (v : Value) (c : Nat) : Rep (es ++ [{ key := .int .i64 k, val := v, born := c }]) (l ++ [(k, v)]) := by
  simp [Rep] at h ⊢; exact h
theorem upd_none : ∀ (l : Ents) (k : Int) (v : Value), look l k = none → upd l k v = l ++ [(k, v)]
  | [], _, _, _ => rfl
  | (a, x) :: l, k, v, h => by
    by_cases hk : k = a
    · simp [look, hk] at h
    · simp only [look, if_neg hk] at h; simp [upd, hk, upd_none l k v h]
theorem del_none : ∀ (l : Ents) (k : Int), look l k = none → del l k = l
  | [], _, _ => rfl
  | (a, x) :: l, k, h => by
    by_cases hk : k = a
    · simp [look, hk] at h
    · simp only [look, if_neg hk] at h; simp [del, hk, del_none l k h]

theorem rep_modify : ∀ (es : List MapEntry) (l : Ents) (k : Int) (v : Value) (j : Nat), Rep es l → (keysOf l).Nodup → j < es.length → (es[j]?).map (·.key) = some (.int .i64 k) →
    Rep (es.modify j fun e => { e with key := .int .i64 k, val := v }) (upd l k v)
  | [], _, _, _, _, _, _, hj, _ => by simp at hj
  | e :: es, l, k, v, j, h, hn, hj, hk => by
    obtain ⟨a, x, l', rfl, h1, h2, h'⟩ := h.cons
    simp only [List.map_cons, List.nodup_cons] at hn
    cases j with
    | zero =>
      simp only [List.getElem?_cons_zero, Option.map_some, Option.some.injEq] at hk
      have hka : k = a := by rw [h1] at hk; cases hk; rfl
      subst hka
      simp only [Rep] at h'
      simp [upd, Rep, h']
    | succ j =>
      simp only [List.getElem?_cons_succ] at hk
      have hka : k ≠ a := fun e0 => hn.1 (by
        subst e0
        have hm : Value.int .i64 k ∈ es.map (·.key) := by
          cases hg : es[j]? with
          | none => rw [hg] at hk; cases hk
          | some y => rw [hg] at hk; simp at hk; exact List.mem_map.2 ⟨y, List.mem_of_getElem? hg, hk⟩
        obtain ⟨y, hy, hyk⟩ := List.mem_map.1 hm
        have hm2 : (y.key, y.val) ∈ es.map (fun e => (e.key, e.val)) := List.mem_map.2 ⟨y, hy, rfl⟩
        rw [show es.map (fun e => (e.key, e.val)) = _ from h'] at hm2
        obtain ⟨p, hp, hpe⟩ := List.mem_map.1 hm2
        simp only [Prod.mk.injEq] at hpe
        rw [hyk] at hpe
        have : p.1 = k := by have := hpe.1; cases this; rfl
        exact List.mem_map.2 ⟨p, hp, this⟩)
      have ih := rep_modify es l' k v j h' hn.2 (by simpa using hj) hk
      simp only [Rep] at ih
      simp [upd, hka, Rep, h1, h2, ih]

theorem rep_erase : ∀ (es : List MapEntry) (l : Ents) (k : Int) (j : Nat), Rep es l → (keysOf l).Nodup → j < es.length → (es[j]?).map (·.key) = some (.int .i64 k) →
    Rep (es.eraseIdx j) (del l k)
  | [], _, _, _, _, _, hj, _ => by simp at hj
  | e :: es, l, k, j, h, hn, hj, hk => by
    obtain ⟨a, x, l', rfl, h1, h2, h'⟩ := h.cons
    simp only [List.map_cons, List.nodup_cons] at hn
    cases j with
    | zero =>
      simp only [List.getElem?_cons_zero, Option.map_some, Option.some.injEq] at hk
      have hka : k = a := by rw [h1] at hk; cases hk; rfl
      subst hka
      simp only [Rep] at h'
      simp [del, Rep, h']
    | succ j =>
      simp only [List.getElem?_cons_succ] at hk
      have hka : k ≠ a := fun e0 => hn.1 (by
        subst e0
        have hm : Value.int .i64 k ∈ es.map (·.key) := by
          cases hg : es[j]? with
          | none => rw [hg] at hk; cases hk
          | some y => rw [hg] at hk; simp at hk; exact List.mem_map.2 ⟨y, List.mem_of_getElem? hg, hk⟩
        obtain ⟨y, hy, hyk⟩ := List.mem_map.1 hm
        have hm2 : (y.key, y.val) ∈ es.map (fun e => (e.key, e.val)) := List.mem_map.2 ⟨y, hy, rfl⟩
        rw [show es.map (fun e => (e.key, e.val)) = _ from h'] at hm2
        obtain ⟨p, hp, hpe⟩ := List.mem_map.1 hm2
        simp only [Prod.mk.injEq] at hpe
        rw [hyk] at hpe
        have : p.1 = k := by have := hpe.1; cases this; rfl
        exact List.mem_map.2 ⟨p, hp, this⟩)
      have ih := rep_erase es l' k j h' hn.2 (by simpa using hj) hk
      simp only [Rep] at ih
      simp [del, hka, Rep, h1, h2, ih]

theorem run_setObj_map {w : World} {b : Nat} {es : Array MapEntry} {c : Nat} (o : Obj) (h : w.heap[b]? = some (.map es c)) : (setObj b o).run P w = .ok () (w.putObj b o) := by
  simp [setObj, Sem.run, h, World.putObj]

theorem run_setObj_iter {w : World} {r : Nat} {a : Option Nat} {s : Nat} {seen : Array Nat} {t : Nat} (o : Obj) (h : w.heap[r]? = some (.mapIter a s seen t)) : (setObj r o).run P w = .ok () (w.putObj r o) := by
  simp [setObj, Sem.run, h, World.putObj]

/-- m[k] = v -/
theorem run_mapSet {w : World} {b : Nat} {l : Ents} (T K E : TypeId) (hT : P.underlying T = some (.map K E)) (hK : P.underlying K = some (.int .i64)) (h : IMap w b l) (k : Int) (v : Value) :
    ∃ es c, (Instr.mapUpdate T (.map (some b)) (.int .i64 k) v).run P w = .ok () (w.putObj b (.map es c)) ∧ IMap (w.putObj b (.map es c)) b (upd l k v) := by
  obtain ⟨es, c, hb, hr, hn, hbn, hbc⟩ := h
  have hlt := lt_of_block hb
  have hg : (getObj b).run P w = .ok (.map es c) w := by simp [getObj, Sem.run, hb]
  rcases findNow_rep .i64 k es.toList l 0 hr with ⟨h1, h2⟩ | ⟨j, u, h1, h2, h3, h4⟩
  · refine ⟨es.push { key := .int .i64 k, val := v, born := c }, c + 1, ?_, _, _, World.putObj_heap_same hlt, ?_, nodup_upd l k v hn, ?_, ?_⟩
    · simp only [Instr.mapUpdate, Sem.run_bind, run_underlying hT, Result.andThen_ok, hg, run_checkKey_int _ 9999 K k w hK, Instr.findKey, run_underlying hK, h2, Sem.run_pure, run_setObj_map _ hb]
    · rw [upd_none l k v h1, Array.toList_push]; exact hr.snoc k v c
    · rw [Array.toList_push, List.map_append, List.nodup_append]
      refine ⟨hbn, by simp, ?_⟩
      intro a ha b' hb' e
      simp only [List.map_cons, List.map_nil, List.mem_singleton] at hb'
      obtain ⟨y, hy, rfl⟩ := List.mem_map.1 ha
      have := hbc y hy
      omega
    · intro e he
      rw [Array.toList_push, List.mem_append] at he
      rcases he with he | he
      · exact Nat.lt_succ_of_lt (hbc e he)
      · simp only [List.mem_singleton] at he; subst he; exact Nat.lt_succ_self _
  · have hj : j < es.size := by simpa using h3
    have hkey : ((es[0 + j]?).map (·.key)).getD (.int .i64 k) = .int .i64 k := by
      rw [Nat.zero_add]
      have : (es[j]?).map (·.key) = some (.int .i64 k) := by rw [← h4]; simp
      rw [this]; rfl
    have hmod : (es.modify (0 + j) fun e => { e with key := .int .i64 k, val := v }).toList = es.toList.modify j fun e => { e with key := .int .i64 k, val := v } := by
      rw [Nat.zero_add, Array.toList_modify]
    have hborn : (es.toList.modify j fun e => { e with key := .int .i64 k, val := v }).map (·.born) = es.toList.map (·.born) := by
      apply List.ext_getElem?
      intro i
      simp only [List.getElem?_map, List.getElem?_modify]
      split
      · cases es.toList[i]? <;> simp
      · simp
    refine ⟨es.modify (0 + j) fun e => { e with key := .int .i64 k, val := v }, c, ?_, _, _, World.putObj_heap_same hlt, ?_, nodup_upd l k v hn, ?_, ?_⟩
    · simp only [Instr.mapUpdate, Sem.run_bind, run_underlying hT, Result.andThen_ok, hg, run_checkKey_int _ 9999 K k w hK, Instr.findKey, run_underlying hK, h2, Sem.run_pure, hkey, Instr.keyThatStays, Instr.sameBits, beq_self_eq_true, Bool.and_self, if_true, run_setObj_map _ hb]
    · rw [hmod]; exact rep_modify _ _ _ _ _ hr hn h3 h4
    · rw [hmod, hborn]; exact hbn
    · intro e he
      rw [hmod] at he
      have : e.born ∈ (es.toList.modify j fun e => { e with key := .int .i64 k, val := v }).map (·.born) := List.mem_map.2 ⟨e, he, rfl⟩
      rw [hborn] at this
      obtain ⟨y, hy, hye⟩ := List.mem_map.1 this
      rw [← hye]; exact hbc y hy

/-- delete(m, k) -/
theorem run_mapDel {w : World} {b : Nat} {l : Ents} (T K E ty : TypeId) (ats : Array TypeId) (hat : ats[0]? = some T) (hT : P.underlying T = some (.map K E)) (hK : P.underlying K = some (.int .i64)) (h : IMap w b l) (k : Int) :
    ∃ es c, (Builtin.delete_ ats ty #[.map (some b), .int .i64 k]).run P w = .ok (.tuple #[]) (w.putObj b (.map es c)) ∧ IMap (w.putObj b (.map es c)) b (del l k) := by
  obtain ⟨es, c, hb, hr, hn, hbn, hbc⟩ := h
  have hlt := lt_of_block hb
  have hg : (getObj b).run P w = .ok (.map es c) w := by simp [getObj, Sem.run, hb]
  rcases findNow_rep .i64 k es.toList l 0 hr with ⟨h1, h2⟩ | ⟨j, u, h1, h2, h3, h4⟩
  · refine ⟨es, c, ?_, _, _, World.putObj_heap_same hlt, ?_, nodup_del l k hn, hbn, hbc⟩
    · simp only [Builtin.delete_, hat, List.getElem?_toArray, List.getElem?_cons_zero, List.getElem?_cons_succ, Sem.run_bind, run_underlying hT, Result.andThen_ok, hg, run_checkKey_int _ 9999 K k w hK, Instr.findKey, run_underlying hK, h2, Sem.run_pure, run_setObj_map _ hb]
    · rw [del_none l k h1]; exact hr
  · have hj : j < es.size := by simpa using h3
    have her : (es.eraseIdxIfInBounds (0 + j)).toList = es.toList.eraseIdx j := by simp
    refine ⟨es.eraseIdxIfInBounds (0 + j), c, ?_, _, _, World.putObj_heap_same hlt, ?_, nodup_del l k hn, ?_, ?_⟩
    · simp only [Builtin.delete_, hat, List.getElem?_toArray, List.getElem?_cons_zero, List.getElem?_cons_succ, Sem.run_bind, run_underlying hT, Result.andThen_ok, hg, run_checkKey_int _ 9999 K k w hK, Instr.findKey, run_underlying hK, h2, Sem.run_pure, run_setObj_map _ hb]
    · rw [her]; exact rep_erase _ _ _ _ hr hn h3 h4
    · rw [her]; exact ((List.eraseIdx_sublist _ _).map _).nodup hbn
    · intro e he
      rw [her] at he
      exact hbc e ((List.eraseIdx_sublist _ _).subset he)

theorem run_mapSet' {w : World} {b : Nat} {l : Ents} (T K E : TypeId) (hT : P.underlying T = some (.map K E)) (hK : P.underlying K = some (.int .i64)) (h : IMap w b l) (k : Int) (v : Value) :
    ∃ w', (Instr.mapUpdate T (.map (some b)) (.int .i64 k) v).run P w = .ok () w' ∧ Ext [b] w w' ∧ IMap w' b (upd l k v) ∧ w'.heap.size = w.heap.size := by
  obtain ⟨es, c, h1, h2⟩ := run_mapSet T K E hT hK h k v
  exact ⟨_, h1, (Ext.refl _ _).put (.inl (by simp)) _, h2, by simp⟩
theorem run_mapDel' {w : World} {b : Nat} {l : Ents} (T K E ty : TypeId) (ats : Array TypeId) (hat : ats[0]? = some T) (hT : P.underlying T = some (.map K E)) (hK : P.underlying K = some (.int .i64)) (h : IMap w b l) (k : Int) :
    ∃ w', (Builtin.delete_ ats ty #[.map (some b), .int .i64 k]).run P w = .ok (.tuple #[]) w' ∧ Ext [b] w w' ∧ IMap w' b (del l k) ∧ w'.heap.size = w.heap.size := by
  obtain ⟨es, c, h1, h2⟩ := run_mapDel T K E ty ats hat hT hK h k
  exact ⟨_, h1, (Ext.refl _ _).put (.inl (by simp)) _, h2, by simp⟩

/-- the iterator in block r over the map in block b: what is left to come -/
def IRange (w : World) (r b : Nat) (left : Ents) : Prop :=
  ∃ (es : Array MapEntry) (c : Nat) (seen : Array Nat), w.heap[b]? = some (.map es c) ∧ (es.toList.map (·.born)).Nodup ∧ (∀ e ∈ es.toList, e.born < c) ∧
    w.heap[r]? = some (.mapIter (some b) c seen c) ∧ Rep (leftOf es seen).toList left

theorem run_rangeMap {w : World} {b : Nat} {l : Ents} (T K E : TypeId) (hT : P.underlying T = some (.map K E)) (h : IMap w b l) :
    ∃ o, dataB o = false ∧ (Instr.range T (.map (some b))).run P w = .ok (.pointer (some ⟨w.heap.size, 0, none⟩)) (w.alloc o) ∧ IRange (w.alloc o) w.heap.size b l := by
  obtain ⟨es, c, hb, hr, hn, hbn, hbc⟩ := h
  have hg : (getObj b).run P w = .ok (.map es c) w := by simp [getObj, Sem.run, hb]
  refine ⟨.mapIter (some b) c #[] c, rfl, ?_, es, c, #[], (Below.heap_alloc _ _ _ (lt_of_block hb)).trans hb, hbn, hbc, World.alloc_heap_new _ _, ?_⟩
  · simp only [Instr.range, Sem.run_bind, run_underlying hT, Result.andThen_ok, hg, Sem.run_pure, run_newObj_alloc]
  · have : leftOf es #[] = es := by simp [leftOf]
    rw [this]; exact hr

theorem rep_mem {es : List MapEntry} {l : Ents} (h : Rep es l) {e : MapEntry} (he : e ∈ es) : ∃ k, e.key = .int .i64 k ∧ (k, e.val) ∈ l := by
  have hm : (e.key, e.val) ∈ es.map (fun e => (e.key, e.val)) := List.mem_map.2 ⟨e, he, rfl⟩
  rw [show es.map (fun e => (e.key, e.val)) = _ from h] at hm
  obtain ⟨p, hp, hpe⟩ := List.mem_map.1 hm
  simp only [Prod.mk.injEq] at hpe
  exact ⟨p.1, hpe.1.symm, by rw [← hpe.2]; exact hp⟩

theorem filter_born : ∀ (L : List MapEntry) (j : Nat) (e : MapEntry), (L.map (·.born)).Nodup → L[j]? = some e → L.filter (fun x => !(x.born == e.born)) = L.eraseIdx j
  | [], _, _, _, h => by simp at h
  | x :: L, 0, e, hn, h => by
    simp only [List.getElem?_cons_zero, Option.some.injEq] at h
    subst h
    have hn' : x.born ∉ L.map (·.born) ∧ (L.map (·.born)).Nodup := List.nodup_cons.1 hn
    rw [List.filter_cons]
    simp only [beq_self_eq_true, Bool.not_true, Bool.false_eq_true, if_false, List.eraseIdx_cons_zero]
    refine List.filter_eq_self.2 (fun y hy => ?_)
    have : y.born ≠ x.born := fun e => hn'.1 (e ▸ List.mem_map.2 ⟨y, hy, rfl⟩)
    simpa using this
  | x :: L, j + 1, e, hn, h => by
    have hn' : x.born ∉ L.map (·.born) ∧ (L.map (·.born)).Nodup := List.nodup_cons.1 hn
    simp only [List.getElem?_cons_succ] at h
    have hm : e ∈ L := List.mem_of_getElem? h
    have : x.born ≠ e.born := fun e' => hn'.1 (e' ▸ List.mem_map.2 ⟨e, hm, rfl⟩)
    have hb : (!(x.born == e.born)) = true := by simpa using this
    rw [List.filter_cons, if_pos hb, List.eraseIdx_cons_succ, filter_born L j e hn'.2 h]

theorem map_eraseIdx' {α β : Type} (f : α → β) : ∀ (l : List α) (j : Nat), (l.eraseIdx j).map f = (l.map f).eraseIdx j
  | [], _ => by simp
  | _ :: _, 0 => by simp
  | x :: l, j + 1 => by simp [map_eraseIdx' f l j]
theorem rep_eraseIdx {es : List MapEntry} {l : Ents} (h : Rep es l) (j : Nat) : Rep (es.eraseIdx j) (l.eraseIdx j) := by
  simp only [Rep] at h ⊢
  rw [map_eraseIdx', map_eraseIdx', h]

theorem perm_eraseIdx {α : Type} : ∀ (l : List α) (j : Nat) (x : α), l[j]? = some x → l.Perm (x :: l.eraseIdx j)
  | [], _, _, h => by simp at h
  | y :: l, 0, x, h => by simp only [List.getElem?_cons_zero, Option.some.injEq] at h; subst h; exact List.Perm.refl _
  | y :: l, j + 1, x, h => by
    simp only [List.getElem?_cons_succ] at h
    exact ((perm_eraseIdx l j x h).cons y).trans (List.Perm.swap _ _ _)

/-- one step of the iterator: nothing is left, or whichever is left comes. -/
theorem run_nextMap {w : World} {r b : Nat} {left : Ents} (ty : TypeId) (h : IRange w r b left) :
    (left = [] ∧ (Instr.next (.pointer (some ⟨r, 0, none⟩)) false ty).run P w = .ok (.tuple #[.bool false]) w) ∨
    ∃ k v left' n o, n ≤ 1 ∧ dataB o = false ∧ (Instr.next (.pointer (some ⟨r, 0, none⟩)) false ty).run P w = .ok (.tuple #[.bool true, .int .i64 k, v]) ((w.drewN n).putObj r o) ∧
      (Instr.entry (.pointer (some ⟨r, 0, none⟩))).run P ((w.drewN n).putObj r o) = .ok (.tuple #[.int .i64 k, v]) ((w.drewN n).putObj r o) ∧
      left.Perm ((k, v) :: left') ∧ IRange ((w.drewN n).putObj r o) r b left' := by
  obtain ⟨es, c, seen, hb, hbn, hbc, hr, hrep⟩ := h
  have hne : b ≠ r := fun e => by subst e; rw [hb] at hr; cases hr
  have hg1 : (getObj r).run P w = .ok (.mapIter (some b) c seen c) w := by simp [getObj, Sem.run, hr]
  have hg2 : (getObj b).run P w = .ok (.map es c) w := by simp [getObj, Sem.run, hb]
  have hold : ∀ x ∈ es.toList, x.born < c := hbc
  have hmem : ∀ x ∈ (leftOf es seen).toList, x.born < c := fun x hx => hold x (mem_left hx).1
  have hnod : ((leftOf es seen).toList.map (·.born)).Nodup := by
    have : (leftOf es seen).toList = es.toList.filter (fun e => !seen.contains e.born) := by simp [leftOf]
    rw [this]; exact ((List.filter_sublist).map _).nodup hbn
  have hpush : ∀ (j : Nat) (e : MapEntry), (leftOf es seen).toList[j]? = some e → (leftOf es (seen.push e.born)).toList = (leftOf es seen).toList.eraseIdx j := fun j e hj => by
    rw [← filter_born _ j e hnod hj]
    simp only [leftOf, Array.toList_filter, List.filter_filter]
    refine List.filter_congr (fun x _ => ?_)
    rw [contains_push, Bool.not_or, Bool.and_comm]
  have hnext : ∀ (L : Array MapEntry), L = leftOf es seen →
      (Instr.next (.pointer (some ⟨r, 0, none⟩)) false ty).run P w = ((choose (Question.mapNext ((if L.isEmpty then #[none] else #[]) ++ L.map some).size)).run P w).andThen fun j w1 =>
        (match ((if L.isEmpty then #[none] else #[]) ++ L.map some)[j]? with
          | some (some e) => (do setObj r (.mapIter (some b) c (seen.push e.born) c); pure (.tuple #[.bool true, e.key, e.val]) : Sem Value)
          | some none => pure (.tuple #[.bool false])
          | none => stuck "Next: no such candidate").run P w1 := fun L hL => by
    have e1 : L.filter (fun x => decide (x.born < c)) = L := Array.filter_eq_self.2 (fun x hx => by simpa using hmem x (by rw [← hL]; simpa using hx))
    have e2 : L.filter (fun x => decide (x.born ≥ c)) = #[] := by
      rw [Array.filter_eq_empty_iff]
      intro x hx
      have := hmem x (by rw [← hL]; simpa using hx)
      simp
      omega
    have e3 : Array.filter (fun e => !seen.contains e.born) es = L := by rw [hL]; rfl
    simp only [Instr.next, Sem.run_bind, hg1, hg2, Result.andThen_ok, next_test_false seen es c c hold (Nat.le_refl _), Bool.false_eq_true, if_false, e3, e1, e2, Array.append_empty]
    rfl
  generalize hL : leftOf es seen = L at *
  have hnext := hnext L rfl
  by_cases h0 : L.size = 0
  · left
    have hLe : L = #[] := Array.eq_empty_of_size_eq_zero h0
    subst hLe
    refine ⟨hrep.nil_left, ?_⟩
    rw [hnext]
    simp [choose, Sem.run, Question.forced, pure]
  · right
    have hne' : L.isEmpty = false := by simp [Array.isEmpty, h0]
    have hch : ∃ (j n : Nat), j < L.size ∧ n ≤ 1 ∧ (choose (Question.mapNext L.size)).run P w = .ok j (w.drewN n) := by
      by_cases hf : L.size ≤ 1
      · exact ⟨0, 0, by omega, by omega, by simp [choose, Sem.run, Question.forced, hf, World.drewN]⟩
      · exact ⟨_, 1, Nat.mod_lt _ (by omega), by omega, by
          simp only [choose, Sem.run, Question.forced, decide_eq_true_eq, hf, if_false, Question.cut]
          rfl⟩
    obtain ⟨j, n, hj, hn, hrun⟩ := hch
    have hLj : L.toList[j]? = some L[j] := by simp
    obtain ⟨k, hk, hkl⟩ := rep_mem hrep (List.mem_of_getElem? hLj)
    have hlj : left[j]? = some (k, L[j].val) := by
      have h1 : (L.toList.map (fun e => (e.key, e.val)))[j]? = some (L[j].key, L[j].val) := by rw [List.getElem?_map, hLj]; rfl
      rw [show L.toList.map (fun e => (e.key, e.val)) = _ from hrep, List.getElem?_map] at h1
      cases hq : left[j]? with
      | none => rw [hq] at h1; cases h1
      | some p => rw [hq] at h1; obtain ⟨p1, p2⟩ := p; simp only [Option.map_some, Option.some.injEq, Prod.mk.injEq] at h1; rw [hk] at h1; obtain ⟨h2, h3⟩ := h1; cases h2; rw [h3]
    have hput : ∀ o, (setObj r o).run P (w.drewN n) = .ok () ((w.drewN n).putObj r o) := fun o => run_setObj_iter (w := w.drewN n) o hr
    have hr' : ((w.drewN n).putObj r (.mapIter (some b) c (seen.push L[j].born) c)).heap[r]? = some (.mapIter (some b) c (seen.push L[j].born) c) := World.putObj_heap_same (lt_of_block (w := w.drewN n) hr)
    have hb' : ((w.drewN n).putObj r (.mapIter (some b) c (seen.push L[j].born) c)).heap[b]? = some (.map es c) := (World.putObj_heap_other hne).trans hb
    have hmj : L[j] ∈ es.toList := (mem_left (es := es) (seen := seen) (by rw [hL]; exact List.mem_of_getElem? hLj)).1
    refine ⟨k, L[j].val, left.eraseIdx j, n, .mapIter (some b) c (seen.push L[j].born) c, hn, rfl, ?_, ?_, perm_eraseIdx _ _ _ hlj, es, c, seen.push L[j].born, hb', hbn, hbc, hr', ?_⟩
    · rw [hnext]
      simp only [hne', Bool.false_eq_true, if_false, Array.empty_append, Array.size_map, hrun, Result.andThen_ok, Array.getElem?_map, Array.getElem?_eq_getElem hj, Option.map_some, Sem.run_bind, hput, Sem.run_pure, hk]
    · have hf : es.find? (·.born == L[j].born) = some L[j] := by rw [← Array.find?_toList]; exact find_born L[j] es.toList hbn hmj
      have hg3 : (getObj r).run P ((w.drewN n).putObj r (.mapIter (some b) c (seen.push L[j].born) c)) = .ok (.mapIter (some b) c (seen.push L[j].born) c) ((w.drewN n).putObj r (.mapIter (some b) c (seen.push L[j].born) c)) := by simp [getObj, Sem.run, hr']
      have hg4 : (getObj b).run P ((w.drewN n).putObj r (.mapIter (some b) c (seen.push L[j].born) c)) = .ok (.map es c) ((w.drewN n).putObj r (.mapIter (some b) c (seen.push L[j].born) c)) := by simp [getObj, Sem.run, hb']
      simp only [Instr.entry, Sem.run_bind, hg3, hg4, Result.andThen_ok, Array.back?_push, bne_self_eq_false, Bool.false_eq_true, if_false, hf, Sem.run_pure, hk]
    · rw [hpush j L[j] hLj]; exact rep_eraseIdx hrep j

theorem run_nextMap' {w : World} {r b : Nat} {left : Ents} (ty : TypeId) (h : IRange w r b left) :
    (left = [] ∧ (Instr.next (.pointer (some ⟨r, 0, none⟩)) false ty).run P w = .ok (.tuple #[.bool false]) w) ∨
    ∃ k v left' w', (Instr.next (.pointer (some ⟨r, 0, none⟩)) false ty).run P w = .ok (.tuple #[.bool true, .int .i64 k, v]) w' ∧
      (Instr.entry (.pointer (some ⟨r, 0, none⟩))).run P w' = .ok (.tuple #[.int .i64 k, v]) w' ∧
      left.Perm ((k, v) :: left') ∧ IRange w' r b left' ∧ Ext [r] w w' ∧ (∀ N, N ≤ r → Calm N w w') ∧ w'.heap.size = w.heap.size := by
  rcases run_nextMap (P := P) ty h with h1 | ⟨k, v, left', n, o, _, ho, h1, h2, h3, h4⟩
  · exact .inl h1
  · obtain ⟨es, c, seen, _, _, _, hr, _⟩ := h
    refine .inr ⟨k, v, left', _, h1, h2, h3, h4, ((Ext.refl _ _).drewN n).put (.inl (by simp)) _, fun N hN => ?_, by simp⟩
    exact Calm.trans (((Ext.refl [] w).drewN n).calm N) (Calm.put (w := w.drewN n) (l := r) hr rfl hN o)

theorem IRange.ext {m : List Nat} {w w' : World} {r b : Nat} {l : Ents} (h : IRange w r b l) (he : Ext m w w') (hb : b ∉ m) (hr : r ∉ m) : IRange w' r b l := by
  obtain ⟨es, c, seen, h1, h2, h3, h4, h5⟩ := h; exact ⟨es, c, seen, he.at h1 hb, h2, h3, he.at h4 hr, h5⟩
theorem IRange.lt {w : World} {r b : Nat} {l : Ents} (h : IRange w r b l) : r < w.heap.size := by obtain ⟨es, c, seen, h1, h2, h3, h4, h5⟩ := h; exact lt_of_block h4

/-- maps.Clone's own part -/
theorem run_mapClone {w : World} {b : Nat} {l : Ents} (t : TypeId) (h : IMap w b l) :
    ∃ o, dataB o = true ∧ (Extern.MapsClone.clone #[.iface t (.map (some b))]).run P w = .ok (.iface t (.map (some w.heap.size))) (w.alloc o) ∧ IMap (w.alloc o) w.heap.size l := by
  obtain ⟨es, c, hb, hr⟩ := h
  have hg : (getObj b).run P w = .ok (.map es c) w := by simp [getObj, Sem.run, hb]
  exact ⟨.map es c, rfl, by
    rw [show Extern.MapsClone.clone #[.iface t (.map (some b))] = ((getObj b) >>= fun o => match o with
      | .map entries clock => (newObj (.map entries clock)) >>= fun r => pure (.iface t (.map (some r)))
      | _ => stuck "maps.clone: a map expected") from rfl]
    simp only [Sem.run_bind, hg, Result.andThen_ok, Sem.run_pure, run_newObj_alloc], es, c, World.alloc_heap_new _ _, hr⟩
end
end Go.Proofs.Ytjdojckemphadaa
