/- A key that is set anew while its map is ranged over, behind where the iterator is: what is left stays. No program is named here. -/
import Derived.Test.YtmfbgkcphiomaaaOps
import Derived.Test.YtmfbgkcphiomaaaKey
namespace Go.Proofs.Ytmfbgkcphiomaaa
open Go Go.RowKit

section
variable {P : Program}
/-- m[k] = v, with k there and gone past -/
theorem run_mapSetIn {w : World} {r b : Nat} {l left : Ents} (T K E : TypeId) (hT : P.underlying T = some (.map K E)) (hK : P.underlying K = some (.int .i64)) (h : IMap w b l) (hR : IRange w r b left) (k : Int) (v : Value)
    (hk : k ∈ keysOf l) (hn : k ∉ keysOf left) :
    ∃ w', (Instr.mapUpdate T (.map (some b)) (.int .i64 k) v).run P w = .ok () w' ∧ Ext [b] w w' ∧ IMap w' b (upd l k v) ∧ IRange w' r b left ∧ w'.heap.size = w.heap.size := by
  obtain ⟨es, c, seen, hb, hbn, hbc, hr, hrep⟩ := hR
  obtain ⟨es', c', hb', hrl, hkn, _, _⟩ := h
  rw [hb] at hb'
  obtain ⟨rfl, rfl⟩ : es = es' ∧ c = c' := by cases hb'; exact ⟨rfl, rfl⟩
  have hlt := lt_of_block hb
  have hg : (getObj b).run P w = .ok (.map es c) w := by simp [getObj, Sem.run, hb]
  have hne : b ≠ r := fun e => by subst e; rw [hb] at hr; cases hr
  rcases findNow_rep .i64 k es.toList l 0 hrl with ⟨h1, h2⟩ | ⟨j, u, h1, h2, h3, h4⟩
  · exact absurd hk ((look_none _ _).1 h1)
  have hj : j < es.size := by simpa using h3
  have hkey : ((es[0 + j]?).map (·.key)).getD (.int .i64 k) = .int .i64 k := by
    rw [Nat.zero_add]
    have : (es[j]?).map (·.key) = some (.int .i64 k) := by rw [← h4]; simp
    rw [this]; rfl
  have hmod : (es.modify (0 + j) fun e => { e with key := .int .i64 k, val := v }).toList = es.toList.modify j fun e => { e with key := .int .i64 k, val := v } := by
    rw [Nat.zero_add, Array.toList_modify]
  have hborn : (es.toList.modify j fun e => { e with key := .int .i64 k, val := v }).map (·.born) = es.toList.map (·.born) := by
    apply List.ext_getElem?
    intro i
    simp only [List.getElem?_map, List.getElem?_modify]
    split
    · cases es.toList[i]? <;> simp
    · simp
  have hbc' : ∀ e ∈ (es.modify (0 + j) fun e => { e with key := .int .i64 k, val := v }).toList, e.born < c := by
    intro e he
    rw [hmod] at he
    have : e.born ∈ (es.toList.modify j fun e => { e with key := .int .i64 k, val := v }).map (·.born) := List.mem_map.2 ⟨e, he, rfl⟩
    rw [hborn] at this
    obtain ⟨y, hy, hye⟩ := List.mem_map.1 this
    rw [← hye]; exact hbc y hy
  have hE0 : Ext [b] w (w.putObj b (.map (es.modify (0 + j) fun e => { e with key := .int .i64 k, val := v }) c)) := (Ext.refl _ _).put (.inl (by simp)) _
  -- the entry that turns was gone past
  obtain ⟨e, he⟩ : ∃ e, es.toList[j]? = some e := ⟨es[j], by simp⟩
  have hek : e.key = .int .i64 k := by rw [he] at h4; simpa using h4
  have hseen : seen.contains e.born = true := by
    cases hc : seen.contains e.born with
    | true => rfl
    | false =>
      refine absurd ?_ hn
      have hmem : e ∈ (leftOf es seen).toList := by
        simp only [leftOf, Array.toList_filter]
        exact List.mem_filter.2 ⟨List.mem_of_getElem? he, by rw [hc]; rfl⟩
      obtain ⟨k', hk', hm⟩ := rep_mem hrep hmem
      rw [hek] at hk'
      have : k = k' := by cases hk'; rfl
      subst this
      exact List.mem_map.2 ⟨_, hm, rfl⟩
  have hleft : (leftOf (es.modify (0 + j) fun e => { e with key := .int .i64 k, val := v }) seen).toList = (leftOf es seen).toList := by
    simp only [leftOf, Array.toList_filter, hmod]
    have key : ∀ (L : List MapEntry) (j : Nat) (e : MapEntry), L[j]? = some e → seen.contains e.born = true →
        (L.modify j fun e => { e with key := .int .i64 k, val := v }).filter (fun e => !seen.contains e.born) = L.filter (fun e => !seen.contains e.born) := by
      intro L
      induction L with
      | nil => intro j e h; simp at h
      | cons x L ih =>
        intro j e h hs
        cases j with
        | zero =>
          simp only [List.getElem?_cons_zero, Option.some.injEq] at h
          subst h
          simp only [List.modify_zero_cons, List.filter_cons, hs, Bool.not_true, Bool.false_eq_true, if_false]
        | succ j =>
          simp only [List.getElem?_cons_succ] at h
          rw [List.modify_succ_cons, List.filter_cons, List.filter_cons, ih j e h hs]
    exact key _ j e he hseen
  refine ⟨_, ?_, hE0, ⟨_, _, World.putObj_heap_same hlt, ?_, nodup_upd l k v hkn, ?_, hbc'⟩, ⟨_, c, seen, World.putObj_heap_same hlt, ?_, hbc', (World.putObj_heap_other (Ne.symm hne)).trans hr, ?_⟩, by simp⟩
  · simp only [Instr.mapUpdate, Sem.run_bind, run_underlying hT, Result.andThen_ok, hg, run_checkKey_int _ 9999 K k w hK, Instr.findKey, run_underlying hK, h2, Sem.run_pure, hkey, Instr.keyThatStays, Instr.sameBits, beq_self_eq_true, Bool.and_self, if_true, run_setObj_map _ hb]
  · rw [hmod]; exact rep_modify _ _ _ _ _ hrl hkn h3 h4
  · rw [hmod, hborn]; exact hbn
  · rw [hmod, hborn]; exact hbn
  · rw [hleft]; exact hrep
end
end Go.Proofs.Ytmfbgkcphiomaaa
