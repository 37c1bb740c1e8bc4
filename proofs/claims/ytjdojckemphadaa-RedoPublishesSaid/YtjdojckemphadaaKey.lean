/- A map keyed by int as the kit's laws on its sorted keys ask for it. No program is named here. -/
import Derived.Test.YtjdojckemphadaaMaps
import Derived.Shelf.SlIterI.Nil
namespace Go.Proofs.Ytjdojckemphadaa
open Go Go.RowKit Go.Maps Go.WideShapes

theorem map_inj_nodup {α β : Type} (f : α → β) (hf : ∀ a b, f a = f b → a = b) : ∀ (l : List α), l.Nodup → (l.map f).Nodup
  | [], _ => List.nodup_nil
  | a :: l, h => by
    obtain ⟨h1, h2⟩ := List.nodup_cons.1 h
    refine List.nodup_cons.2 ⟨fun hm => ?_, map_inj_nodup f hf l h2⟩
    obtain ⟨b, hb, e⟩ := List.mem_map.1 hm
    exact h1 (hf _ _ e ▸ hb)

theorem IMap.owns {P : Program} {w : World} {b : Nat} {l : Ents} (K : TypeId) (hK : P.underlying K = some (.int .i64)) (h : IMap w b l) (hl : l.length ≤ maxLen) (hw : ∀ p ∈ l, (Lit.int .i64 p.1).wf = true) :
    ∃ D0 : DataW Unit, w.ownsMap P K (fun _ => some (.nil, [])) b l.length D0 ∧ (intKeys D0).Perm (keysOf l) ∧ Maps.size D0 = l.length := by
  obtain ⟨es, c, hb, hr, hn, hbn, hbc⟩ := h
  have hsz : es.size = l.length := by have := hr.length; simpa using this
  have hkeys : es.toList.map (·.key) = (keysOf l).map (Value.int .i64) := by
    have h1 : (es.toList.map (fun e => (e.key, e.val))).map (·.1) = (l.map (fun p => (Value.int .i64 p.1, p.2))).map (·.1) := congrArg _ hr
    simpa [List.map_map, Function.comp_def] using h1
  have hrd : ∀ x ∈ es.toList, ∃ k, x.key = .int .i64 k ∧ WideElems.rd (H := Unit) P K (fun _ => some (.nil, [])) x = some (.int .i64 k, .nil) := by
    intro x hx
    obtain ⟨k, hk, hm⟩ := rep_mem hr hx
    refine ⟨k, hk, ?_⟩
    have := hw _ hm
    simp [WideElems.rd, hk, keyOf_int_mk hK this]
  have F : WideElems.Fit (H := Unit) P K (fun _ => some (.nil, [])) es c :=
    ⟨by omega, ⟨hbc, hbn, by rw [hkeys]; exact map_inj_nodup _ (fun a b e => by cases e; rfl) _ hn⟩, fun x hx => by obtain ⟨k, _, h2⟩ := hrd x hx; exact ⟨_, h2⟩⟩
  refine ⟨_, ⟨es, c, hb, F, Nat.le_of_eq hsz, rfl⟩, ?_, ?_⟩
  · have hp := (sorted_perm (es.toList.map (WideElems.rg (H := Unit) P K (fun _ => some (.nil, []))))).map (fun p => intOf p.1)
    refine hp.trans (.of_eq ?_)
    rw [List.map_map]
    have h2 : es.toList.map ((fun p => intOf p.1) ∘ WideElems.rg (H := Unit) P K (fun _ => some (.nil, []))) = (es.toList.map (·.key)).map (fun v => match v with | .int _ k => k | _ => 0) := by
      rw [List.map_map]
      refine List.map_congr_left (fun x hx => ?_)
      obtain ⟨k, h1, h3⟩ := hrd x hx
      simp [WideElems.rg, h3, h1, intOf]
    rw [h2, hkeys, List.map_map]
    simp [Function.comp_def]
  · show (List.foldr DataW.insert [] _).length = _
    rw [length_sorted, List.length_map, Array.length_toList]
    exact hsz

/-- the keys, rising -/
def sortK (l : Ents) : List Int := (keysOf l).mergeSort (fun x y => decide (x ≤ y))
theorem sortK_perm (l : Ents) : (sortK l).Perm (keysOf l) := List.mergeSort_perm _ _
theorem sortK_len (l : Ents) : (sortK l).length = l.length := by rw [(sortK_perm l).length_eq]; simp
theorem sortK_of {ss : List Int} {l : Ents} (h : ss.Perm (keysOf l)) : ss.mergeSort (fun x y => decide (x ≤ y)) = sortK l := mergeSort_of_perm_i h
end Go.Proofs.Ytjdojckemphadaa
