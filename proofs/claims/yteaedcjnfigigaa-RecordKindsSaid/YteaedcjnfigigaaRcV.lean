/- How an array of 24 words that came in is read. -/
import Derived.Test.YteaedcjnfigigaaRcO
namespace Go.Proofs.Yteaedcjnfigigaa
open Go Go.RowKit Go.ChangeShapes Go.WideShapes Go.ChangeAt Go.Deep

theorem words_open {H : Type} {enc : TypeId × Value → H} {W : World} {base : Nat} {v : Value} {d : DataW H} {p : List MemPlace}
    (hv : Value.okWide Try.prog W .any base 25 v) (h : DataW.Trod enc Try.prog W 0 (fun _ => true) true 25 v d p) :
    ∃ F, v = .agg (arrF 24 F) ∧ ∀ i, U64 (F i) := by
  have hu := Try.underlying25
  unfold Value.okWide at hv
  rw [hu] at hv
  obtain ⟨cs, rfl, hs, _⟩ := hv
  have h24 : Try.prog.cellsOf 25 = 24 := by kernel_rfl
  have h1 : Try.prog.cellsOf 24 = 1 := by kernel_rfl
  rw [h24] at hs
  obtain ⟨fuel, hf⟩ := h
  obtain ⟨xs, m, rfl, _, _, hl, hg⟩ := DataW.trod_array hu hf
  rw [h1] at hg
  have key : ∀ i, i < 24 → ∃ a, cs[i]? = some (.int .u64 a) ∧ U64 a := fun i hi => by
    have h2 := hg i hi
    rw [List.getElem?_eq_getElem (by omega)] at h2
    have h3 : (List.drop (i * 1) (Value.agg cs).cells.toList).take 1 = [cs[i]] := by
      simp only [Value.cells, Nat.mul_one]
      rw [List.drop_eq_getElem_cons (by simpa using (by omega : i < cs.size))]
      simp
    rw [h3] at h2
    obtain ⟨k1, e1, _, wf⟩ := DataW.trod_int Try.underlying24 h2
    simp at e1
    exact ⟨k1, by simp [e1, show i < cs.size by omega], u64_wf wf⟩
  refine ⟨fun i => if i < 24 then intOf (cs.getD i undef) else 0, ?_, fun i => ?_⟩
  · congr 1
    apply Array.ext
    · rw [arrF_size, hs]
    · intro i hi1 hi2
      obtain ⟨a, ha, _⟩ := key i (by omega)
      have hb := arrF_get 24 (fun i => if i < 24 then intOf (cs.getD i undef) else 0) i (by omega)
      rw [Array.getElem?_eq_getElem hi2] at hb
      rw [Array.getElem?_eq_getElem hi1] at ha
      simp only [Option.some.injEq] at ha hb
      rw [ha, hb, if_pos (by omega)]
      simp [hi1, ha, intOf]
  · by_cases hi : i < 24
    · obtain ⟨a, ha, hu⟩ := key i hi
      simp only [if_pos hi]
      simp [ha, intOf]
      exact hu
    · simp only [if_neg hi]
      exact ⟨by omega, by omega⟩
end Go.Proofs.Yteaedcjnfigigaa
