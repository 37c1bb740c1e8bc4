/- Package trace: Orderly. -/
import Derived.Test.YtmfbgkcphiomaaaTrD
namespace Go.Proofs.Ytmfbgkcphiomaaa
open Go Go.RowKit Go.Shelf
attribute [local go_sem] Oper.semAt_some

theorem LE.val {l : Ents} {f : Int → Int} (hn : (keysOf l).Nodup) (h : LE l f) {p : Int × Value} (hp : p ∈ l) : f p.1 ≠ 0 ∧ p.2 = .int .i64 (f p.1) := by
  have h1 : f p.1 ≠ 0 := (h.keys p.1).1 (List.mem_map.2 ⟨p, hp, rfl⟩)
  have h2 := look_of_mem l p.1 p.2 hn hp
  rw [h.at h1] at h2
  exact ⟨h1, by simpa using h2.symm⟩
theorem LE.ord {l : Ents} {L : List Tch} (hn : (keysOf l).Nodup) (h : LE l (stS L)) (hr : ∀ t ∈ L, t.right = true) : ordL L = true ↔ ∀ p ∈ l, p.2 = .int .i64 3 := by
  rw [ordL_iff hr]
  constructor
  · intro ha p hp
    obtain ⟨h1, h2⟩ := h.val hn hp
    rw [h2, (ha p.1).resolve_left h1]
  · intro ha k
    by_cases hk : stS L k = 0
    · exact .inl hk
    · have := ha _ (look_some_mem _ _ _ (h.at hk))
      simp at this
      exact .inr this

set_option maxRecDepth 100000 in
set_option maxHeartbeats 2000000 in
theorem tr_Orderly (N : Nat) (ao : Option Addr) (cap : Nat) (L : List Tch) (w : World) (hp : TcAt w N ao L) (hn : L.length ≤ 9223372036854775807) :
    Calls Try.prog 14 #[.slice ao L.length cap] w fun e w' => e = .returned (.bool (tcheck L == 0 && ordL L)) ∧ Ext [] w w' := by
  have HC := Lib.hid (tc_Check N ao cap L w hp hn)
  by_cases hc : tcheck L = 0
  · obtain ⟨hr, hl⟩ := tcheck_zero hc
    rw [hc] at HC ⊢
    rw [show ((0 : Int) == 0 && ordL L) = ordL L from rfl]
    have HL := Lib.hid (fun W (hE : Ext [] w W) => tr_lines N ao cap L W (hp.ext0 hE) hn hr)
    have HR := Lib.hid hr
    obtain ⟨r, hor⟩ : ∃ r, ordL L = r := ⟨_, rfl⟩
    rw [hor]
    have HO := Lib.hid hor
    generalize L.length = n at *
    clear hp hr hl hc hor hn
    go_enter Try.func14, Try.ntmps14
    go_wp2_with fail
    refine HC.out.mono ?_
    rintro e w1 ⟨rfl, hE1⟩
    go_wp2_with fail
    refine (HL.out w1 hE1).mono ?_
    rintro e w2 ⟨rfl, hE2, l, hm, hle⟩
    obtain ⟨W3, hrg, hir, hE3, hs3⟩ := run_rangeMap' (P := Try.prog) 61 3 3 Try.underlying61 hm
    have HM := Lib.hid (And.intro hm (And.intro hle (And.intro hir ((hE1.trans hE2).trans hE3))))
    have HS := Lib.hid (show w1.heap.size < w2.heap.size ∧ w.heap.size ≤ w2.heap.size from ⟨hm.lt, (hE1.trans hE2).size⟩)
    clear hE1 hE2 hm hle hir hE3 hs3
    go_wp2
    go_loopg [] l.length (fun cnt wr => ∃ left, IRange wr w2.heap.size w1.heap.size left ∧ left.length = cnt ∧ (∀ p ∈ l, p ∈ left ∨ p.2 = .int .i64 3) ∧ (∀ p ∈ left, p ∈ l) ∧ Ext [] w wr)
    case atStart => exact ⟨l, HM.out.2.2.1, rfl, fun p hp => .inl hp, fun p hp => hp, HM.out.2.2.2⟩
    case round =>
      obtain ⟨left, hir, hk, hdone, hsub, hE⟩ := hrel
      rcases next_any (P := Try.prog) hir with ⟨hnil, hn⟩ | ⟨j, v, left', W4, hn, hen, hperm, hir2, hE4, _, hs4⟩
      · have HF : Hid (r = true ∧ Ext [] w wr) := ⟨by
          rw [← HO.out, (HM.out.2.1.ord HM.out.1.nodup HR.out)]
          intro p hp
          rcases hdone p hp with h | h
          · rw [hnil] at h; cases h
          · exact h, hE⟩
        clear hir hk hdone hsub hE hnil
        go_wp2
        go_ret
        exact ⟨ret_bool HF.out.1, HF.out.2⟩
      · have hjl : (j, v) ∈ l := hsub _ (hperm.mem_iff.2 (List.mem_cons_self ..))
        obtain ⟨h0, hv⟩ := HM.out.2.1.val HM.out.1.nodup hjl
        dsimp only at h0 hv
        obtain ⟨x, hx⟩ : ∃ x, stS L j = x := ⟨_, rfl⟩
        rw [hx] at hv
        subst hv
        have hE5 : Ext [] w W4 := hE.trans' hE4 (fun i hi => .inr (by simp at hi; have := HS.out.2; omega))
        by_cases hx3 : x = 3
        · have g : (x != 3) = false := by simpa using hx3
          have HF : Hid (left'.length < gk ∧ (∀ p ∈ l, p ∈ left' ∨ p.2 = .int .i64 3) ∧ (∀ p ∈ left', p ∈ l) ∧ IRange W4 w2.heap.size w1.heap.size left' ∧ Ext [] w W4) := by
            refine ⟨by have := hperm.length_eq; simp at this; omega, fun p hp => ?_, fun p hp => hsub p (hperm.mem_iff.2 (List.mem_cons_of_mem _ hp)), hir2, hE5⟩
            rcases hdone p hp with h' | h'
            · rcases List.mem_cons.1 (hperm.mem_iff.1 h') with h'' | h''
              · exact .inr (by rw [h'', hx3])
              · exact .inl h''
            · exact .inr h'
          clear hir hk hdone hsub hE hperm hir2 hE4 hs4 hjl h0 hx hE5 hx3
          go_wp2
          go_roundg left'.length
          case measure => exact HF.out.1
          case rel => exact ⟨left', HF.out.2.2.2.1, rfl, HF.out.2.1, HF.out.2.2.1, HF.out.2.2.2.2⟩
        · have g : (x != 3) = true := by simpa using hx3
          have HF : Hid (r = false ∧ Ext [] w W4) := ⟨by
            cases hr : r with
            | false => rfl
            | true =>
              have := (HM.out.2.1.ord HM.out.1.nodup HR.out).1 (HO.out.trans hr) _ hjl
              simp at this
              exact absurd this hx3, hE5⟩
          clear hir hk hdone hsub hE hperm hir2 hE4 hs4 hjl h0 hx hE5 hx3
          go_wp2
          go_ret
          exact ⟨ret_bool HF.out.1, HF.out.2⟩
  · rw [show (tcheck L == 0 && ordL L) = false from by simp [hc]]
    have g : (tcheck L != 0) = true := by simpa using hc
    generalize tcheck L = c at *
    generalize L.length = n at *
    clear hp hc hn
    go_enter Try.func14, Try.ntmps14
    go_wp2_with fail
    refine HC.out.mono ?_
    rintro e w1 ⟨rfl, hE⟩
    go_wp2
    go_ret
    exact ⟨rfl, hE⟩
end Go.Proofs.Ytmfbgkcphiomaaa
