/- The walk of the law AllocHolds, whole. -/
import Derived.Test.YtgpoplnfhlfogaaAlK
import Derived.Test.YtgpoplnfhlfogaaOpn
namespace Go.Proofs.Ytgpoplnfhlfogaa
open Go Go.RowKit Go.Shelf

theorem nodup_take {ks : List Int} (h : ks.Nodup) {j : Nat} (hj : j < ks.length) : ks.getD j 0 ∉ ks.take j := by
  intro hm
  have h1 : ks.take (j + 1) = ks.take j ++ [ks.getD j 0] := by
    rw [List.take_succ_eq_append_getElem hj]
    simp [hj]
  have h2 : (ks.take (j + 1)).Nodup := h.sublist (List.take_sublist _ _)
  rw [h1, List.nodup_append] at h2
  exact h2.2.2 _ hm _ (List.mem_singleton.2 rfl) rfl
theorem take_getD {ks : List Int} {j : Nat} (hj : j < ks.length) : ks.take (j + 1) = ks.take j ++ [ks.getD j 0] := by
  rw [List.take_succ_eq_append_getElem hj]
  simp [hj]

/-- the law's inner loops: what held says meanwhile -/
def HAdd (w0 wr : World) (hb : Nat) (l : Ents) (ks : List Int) : Prop := ∃ lj, IMap wr hb lj ∧ (∀ q, look lj q = if q ∈ ks then some (.int .i64 1) else look l q) ∧ Ext [hb] w0 wr
def HDel (w0 wr : World) (hb : Nat) (l : Ents) (ks : List Int) : Prop := ∃ lj, IMap wr hb lj ∧ (∀ q, look lj q = if q ∈ ks then none else look l q) ∧ Ext [hb] w0 wr
theorem HAdd.step {w0 wr : World} {hb : Nat} {l : Ents} {ks : List Int} (h : HAdd w0 wr hb l ks) (k : Int) (wr' : World) (hE : Ext [] wr wr') : ∃ w', (Instr.mapUpdate 42 (.map (some hb)) (.int .i64 k) (.int .i64 1)).run Try.prog wr' = .ok () w' ∧ HAdd w0 w' hb l (ks ++ [k]) := by
  obtain ⟨lj, h1, h2, h3⟩ := h
  obtain ⟨w', hr, hE', hI, _⟩ := run_mapSet' (P := Try.prog) 42 3 3 Try.underlying42 Try.underlying3 (h1.ext hE (by simp)) k (.int .i64 1)
  refine ⟨w', hr, _, hI, fun q => ?_, (h3.trans hE.wide).trans hE'⟩
  rw [look_upd, h2 q]
  by_cases hq : q = k <;> simp [hq]
theorem HAdd.look {w0 wr : World} {hb : Nat} {l : Ents} {ks : List Int} (h : HAdd w0 wr hb l ks) (k : Int) (hk : k ∉ ks) (hl : look l k = none) : (Instr.lookup 42 (.map (some hb)) (.int .i64 k) false).run Try.prog wr = .ok (.int .i64 0) wr := by
  obtain ⟨lj, h1, h2, h3⟩ := h
  rw [run_look_at 42 3 3 (.int .i64 0) Try.underlying42 Try.underlying3 (zeroI wr) h1 k, h2 k, if_neg hk, hl]
  rfl
theorem HDel.step {w0 wr : World} {hb : Nat} {l : Ents} {ks : List Int} (h : HDel w0 wr hb l ks) (k : Int) : ∃ w', (Builtin.delete_ #[42, 3] 0 #[.map (some hb), .int .i64 k]).run Try.prog wr = .ok (.tuple #[]) w' ∧ HDel w0 w' hb l (ks ++ [k]) := by
  obtain ⟨lj, h1, h2, h3⟩ := h
  obtain ⟨w', hr, hE', hI, _⟩ := run_mapDel' (P := Try.prog) 42 3 3 0 #[42, 3] rfl Try.underlying42 Try.underlying3 h1 k
  refine ⟨w', hr, _, hI, fun q => ?_, h3.trans hE'⟩
  rw [look_del _ _ h1.nodup, h2 q]
  by_cases hq : q = k <;> simp [hq]

theorem HSt.added {w w1 w2 wr : World} {c hb mb mb2 : Nat} {S : Lns} {l : Ents} {b : Int} {ks : List Int} (h : HSt w w1 c hb mb S l b) (hp2 : Pool w2 c mb2 3 (3 + ((18 : Nat) : Int) - 1) (allL S true ks)) (hE2 : Ext [c] w1 w2) (hnm2 : hb ≠ mb2) (hr : ∀ k ∈ ks, 3 ≤ k ∧ k < 21 ∧ (S k).1 = false) (ha : HAdd w2 wr hb l ks) :
    ∃ l', HSt w wr c hb mb2 (allL S true ks) l' (b + 1) := by
  obtain ⟨l', h1, h2, h3⟩ := ha
  refine ⟨l', hp2.ext h3 (by simp; exact fun e => h.hne e.symm) (by simp; exact fun e => hnm2 e.symm), h1, h.ok.take (fun k hk => ⟨(hr k hk).1, (hr k hk).2.1⟩) h2, cntB_all h.cnt, ?_, h.hc, h.hh, h.hne, hnm2⟩
  exact (h.ext.trans' hE2 (fun j hj => .inr (by simp at hj; rw [hj]; exact h.hc))).trans' h3 (fun j hj => .inr (by simp at hj; rw [hj]; exact h.hh))
theorem HSt.removed {w w1 w2 wr : World} {c hb mb mb2 : Nat} {S : Lns} {l : Ents} {b : Int} {ks : List Int} (h : HSt w w1 c hb mb S l b) (hp2 : Pool w2 c mb2 3 (3 + ((18 : Nat) : Int) - 1) (allL S false ks)) (hE2 : Ext [c] w1 w2) (hnm2 : hb ≠ mb2) (ha : HDel w2 wr hb l ks) :
    ∃ l', HSt w wr c hb mb2 (allL S false ks) l' (b + 1) := by
  obtain ⟨l', h1, h2, h3⟩ := ha
  refine ⟨l', hp2.ext h3 (by simp; exact fun e => h.hne e.symm) (by simp; exact fun e => hnm2 e.symm), h1, h.ok.give h2, cntB_all h.cnt, ?_, h.hc, h.hh, h.hne, hnm2⟩
  exact (h.ext.trans' hE2 (fun j hj => .inr (by simp at hj; rw [hj]; exact h.hc))).trans' h3 (fun j hj => .inr (by simp at hj; rw [hj]; exact h.hh))
theorem HSt.up {w wr : World} {c hb mb : Nat} {S : Lns} {l : Ents} {b : Int} (h : HSt w wr c hb mb S l b) : HSt w wr c hb mb S l (b + 1) :=
  ⟨h.pool, h.held, h.ok, fun q => ⟨(h.cnt q).1, by have := (h.cnt q).2; omega⟩, h.ext, h.hc, h.hh, h.hne, h.hnm⟩

set_option maxRecDepth 100000 in
set_option maxHeartbeats 8000000 in
theorem al_holds (ao : Option Addr) (n cap : Nat) (A : Nat → ActV) (many : Int) (w : World) (hp : Acts w ao n A) (hn : n ≤ 9223372036854775807) (hA : ∀ i, i < n → ActOk (A i)) (hm : I64 many) :
    Calls Try.prog 4 #[.slice ao n cap, .int .i64 many] w fun e w' => e = .returned (.bool true) ∧ Ext [] w w' := by
  have HW := Lib.hid (al_works)
  have HF := Lib.hid (al_few ao n cap A 40 w hp hn (fun i hi => by have := (hA i hi).2.2.1; unfold maxLen at this; omega))
  have HP := Lib.hid hp
  have HA := Lib.hid hA
  have HM := Lib.hid hm
  clear hp hA hm
  cases hf : fewB n A 40 with
  | false =>
    rw [hf] at HF
    clear hf
    go_enter Try.func4, Try.ntmps4
    go_wp2_with fail
    refine HF.out.mono ?_
    rintro e w' ⟨rfl, rfl⟩
    go_wp2_with (go_at_call 21; refine (HW.out _).mono ?_; rintro e w' ⟨rfl, hE⟩)
    go_ret
    exact ⟨rfl, hE⟩
  | true =>
    rw [hf] at HF
    have HFW := Lib.hid (fewB_true hf)
    have hn40 : n ≤ 40 := by have := HFW.out.2; omega
    clear hf
    have hmm := @run_makeMap Try.prog
    go_enter Try.func4, Try.ntmps4
    go_wp2_with fail
    refine HF.out.mono ?_
    rintro e w' ⟨rfl, rfl⟩
    go_wp2_with fail
    refine (al_New 3 20 w (by omega) (by omega) (by omega)).mono ?_
    rintro e w0 ⟨rfl, hE0, hp0⟩
    obtain ⟨c, hc⟩ : ∃ c, c = w.heap.size + 1 := ⟨_, rfl⟩
    obtain ⟨hb, hhb⟩ : ∃ hb, hb = w0.heap.size := ⟨_, rfl⟩
    have hcl : c < w0.heap.size := by rw [hc]; exact lt_of_block hp0.1
    have hst0 : HSt w (w0.alloc (.map #[] 0)) c hb w.heap.size S0 [] 0 := by
      refine ⟨?_, ?_, HeldOk.start, w_cnt0, hE0.alloc _, by omega, by have := hE0.size; omega, by omega, by omega⟩
      · rw [hc]; exact hp0.ext ((Ext.refl [] _).alloc _) (by simp) (by simp)
      · rw [hhb]; exact IMap.made w0
    have H0 := Lib.hid hst0
    rw [← hc] at hp0 ⊢
    clear hst0 hE0 hp0 hc hcl
    go_wp2_with fail
    rw [← hhb]
    clear hhb
    go_loopg [8] n (fun k i wr => ∃ (j mb : Nat) (S : Lns) (l : Ents), i = .int .i64 j ∧ j + k = n ∧ HSt w wr c hb mb S l j)
    case atStart => exact ⟨0, _, S0, [], rfl, by omega, H0.out⟩
    case round =>
      obtain ⟨j, mb, S, l, rfl, hjk, hst⟩ := hrel
      have HS := Lib.hid hst
      clear hst
      by_cases hlt : j < n
      · obtain ⟨b, off, rfl, hbw, hk0, k1, k2, k3, hI⟩ : ∃ b off, ao = some ⟨b, off, none⟩ ∧ b < w.heap.size ∧ (w.cell? ⟨b, off + j * 3, none⟩ = some (.int .i64 (A j).what) ∧ w.cell? ⟨b, off + j * 3 + 1, none⟩ = some (.int .i64 (A j).many) ∧
            w.cell? ⟨b, off + j * 3 + 2, none⟩ = some (.slice (A j).bo (A j).n (A j).cap) ∧ IntsAt w (A j).bo (A j).n (A j).L) ∧ wr.cell? ⟨b, off + j * 3, none⟩ = some (.int .i64 (A j).what) ∧ wr.cell? ⟨b, off + j * 3 + 1, none⟩ = some (.int .i64 (A j).many) ∧
            wr.cell? ⟨b, off + j * 3 + 2, none⟩ = some (.slice (A j).bo (A j).n (A j).cap) ∧ IntsAt wr (A j).bo (A j).n (A j).L := by
          rcases HP.out with h | ⟨b, off, h1, h2⟩
          · omega
          · have hE := HS.out.ext
            exact ⟨b, off, h1, World.block_lt_of_cell? _ _ (h2 j hlt).1, h2 j hlt, hE.cell (h2 j hlt).1 (by simp), hE.cell (h2 j hlt).2.1 (by simp), hE.cell (h2 j hlt).2.2.1 (by simp), (h2 j hlt).2.2.2.ext hE⟩
        have hbc : b ∉ [c] := by have := HS.out.hc; simp; omega
        have hbh : b ∉ [hb] := by have := HS.out.hh; simp; omega
        have HAJ := Lib.hid (HA.out j hlt)
        have HI := Lib.hid hI
        have HK0 := Lib.hid hk0
        clear hk0
        have hfew := HFW.out.1 j hlt
        clear hI
        generalize A j = a at *
        go_wp2_with fail
        refine (al_Free c mb 3 18 S wr (by omega) (by omega) HS.out.pool).mono ?_
        rintro e w1 ⟨rfl, hE1⟩
        have k1' := hE1.cell k1 (by simp)
        have k2' := hE1.cell k2 (by simp)
        have k3' := hE1.cell k3 (by simp)
        have HS1 := Lib.hid (HS.out.ext1 hE1)
        have HI1 := Lib.hid (HI.out.ext hE1)
        clear k1 k2 k3 hE1
        by_cases x0 : a.what = 0
        · rw [x0] at k1'
          clear x0
          go_wp2_with fail
          refine (h_take HS1.out (by omega) a.many HAJ.out.2.1).mono ?_
          rintro e w2 ⟨ao2, cap2, ks, er, mb2, rfl, hI2, hN2, hp2, hE2, hnm2, hl18, hnd, hfree, her, her0⟩
          have q2 := hE2.cell k2' hbc
          have HS2 : Hid (HSt w w2 c hb mb2 (allL S true ks) l (j + 1) ∨ True) := .inr trivial
          have HK := Lib.hid (And.intro hI2 (And.intro hN2 (And.intro hp2 (And.intro hE2 (And.intro hnm2 (And.intro hnd (And.intro hfree her0)))))))
          obtain ⟨fr, hfr⟩ : ∃ fr, fr = (thoseL S false 3 18).length := ⟨_, rfl⟩
          rw [← hfr] at her
          try rw [← hfr]
          clear hI2 hN2 hp2 hE2 hnm2 hnd hfree her0 k1' k2' k3' HS2 hfr
          cases hd : decide ((fr : Int) < a.many)
          all_goals
            rw [hd] at her
            go_wp2_with fail
            go_quiet ((go_at_call 25; exact Calls.quiet_of_same (al_num' _ _)))
            go_wp2_with fail
            go_loopg [12] ks.length (fun k i wr' => ∃ t : Nat, i = .int .i64 t ∧ t + k = ks.length ∧ HAdd w2 wr' hb l (ks.take t))
            case atStart => exact ⟨0, rfl, by omega, l, HS1.out.held.ext ((HK.out.2.2.2.1).trans (Ext.drewN (Ext.refl [c] _) _)) (by have := HS1.out.hne; simpa using this), fun q => by simp, Ext.drewN (Ext.refl _ _) _⟩
            case round =>
              obtain ⟨t, rfl, htk, hadd⟩ := hrel
              have HAD := Lib.hid hadd
              clear hadd
              by_cases hlt2 : t < ks.length
              · obtain ⟨b2, off2, rfl, q1⟩ : ∃ b off, ao2 = some ⟨b, off, none⟩ ∧ wr.cell? ⟨b, off + t, none⟩ = some (.int .i64 (ks.getD t 0)) := by
                  rcases HK.out.1 with h | ⟨b, off, h1, h2⟩
                  · omega
                  · have := HK.out.2.1 _ h1
                    have hlb := HS1.out.held.lt
                    obtain ⟨lj, _, _, hE⟩ := HAD.out
                    exact ⟨b, off, h1, hE.cell (h2 t hlt2) (show b ∉ [hb] from by simp at this ⊢; omega)⟩
                obtain ⟨z, hz⟩ : ∃ z, z = ks.getD t 0 := ⟨_, rfl⟩
                have hzk : z ∈ ks := by rw [hz]; simp [hlt2]
                have hlk := HAD.out.look z (by rw [hz]; exact nodup_take HK.out.2.2.2.2.2.1 hlt2) (by rw [HS1.out.ok.1 z, (HK.out.2.2.2.2.2.2.1 z hzk).2.2]; rfl)
                obtain ⟨w5, hset, hadd5⟩ := HAD.out.step z wr (Ext.refl _ _)
                rw [← hz] at q1
                have H5 : Hid (HAdd w2 w5 hb l (ks.take (t + 1))) := by
                  unfold Hid
                  rw [take_getD hlt2, ← hz]
                  exact hadd5
                clear hz hzk hadd5
                go_wp2
                go_roundg (ks.length - (t + 1))
                case measure => omega
                case rel => exact ⟨t + 1, by go_num, by omega, H5.out⟩
              · have hge : ks.length ≤ t := by omega
                obtain ⟨l5, hst5⟩ := HS1.out.added HK.out.2.2.1 HK.out.2.2.2.1 HK.out.2.2.2.2.1 HK.out.2.2.2.2.2.2.1 (by have := HAD.out; rwa [List.take_of_length_le hge] at this)
                have H5 := Lib.hid hst5
                clear hst5
                obtain ⟨S6, hS6⟩ : ∃ S6, S6 = allL S true ks := ⟨_, rfl⟩
                rw [← hS6] at H5
                clear hS6
                have hlen := run_lenMap (P := Try.prog) 42 3 3 3 Try.underlying42 H5.out.held
                have hl18 := H5.out.ok.len H5.out.held.nodup
                have hl5 : l5.length ≤ 18 := by omega
                have hf5 : (thoseL S6 false 3 18).length ≤ 18 := by omega
                have hw18 : (((l5.length : Int) + ((thoseL S6 false 3 18).length : Int)) != 18) = false := by rw [hl18]; rfl
                clear hl18
                go_wp2_with fail
                refine (al_Free c mb2 3 18 S6 _ (by omega) (by omega) H5.out.pool).mono ?_
                rintro e w6 ⟨rfl, hE6⟩
                have H6 := Lib.hid (H5.out.ext1 hE6)
                clear hE6
                go_wp2
                go_roundg (n - (j + 1))
                case measure => omega
                case rel => exact ⟨j + 1, _, S6, l5, by go_num, by omega, by simpa using H6.out⟩
        by_cases x1 : a.what = 1
        · rw [x1] at k1'
          clear x0 x1
          go_wp2_with fail
          refine (h_give HS1.out (by omega) a.bo a.n a.cap a.L HI1.out (by omega)).mono ?_
          rintro e w2 ⟨er, S2, mb2, rfl, hp2, hE2, hmb2, hcase⟩
          have HE2 : Hid (Ext [] w w2) := HS1.out.ext.trans' hE2 (fun j hj => .inr (by have := HS1.out.hc; simp at hj; omega))
          have hnm2 : hb ≠ mb2 := fun e => hmb2.elim (fun h' => HS1.out.hnm (e.trans h')) (fun h' => by have := HS1.out.held.lt; omega)
          have HK := Lib.hid (And.intro hp2 (And.intro hE2 (And.intro hmb2 hnm2)))
          have q3 := HE2.out.cell HK0.out.2.2.1 (by simp)
          clear hp2 hE2 hmb2 hnm2 k1' k2' k3'
          rcases hcase with ⟨rfl, hS2⟩ | ⟨her, hS2⟩
          · have HS2 := Lib.hid hS2
            clear hS2
            go_wp2_with (go_at_call 25; refine (al_num _ _).mono ?_; rintro e w' ⟨rfl, rfl⟩)
            go_loopg [13] a.n (fun k i wr' => ∃ t : Nat, i = .int .i64 t ∧ t + k = a.n ∧ HDel w2 wr' hb l (lst a.L t))
            case atStart => exact ⟨0, rfl, by omega, l, HS1.out.held.ext HK.out.2.1 (by have := HS1.out.hne; simpa using this), fun q => by simp [lst], Ext.refl _ _⟩
            case round =>
              obtain ⟨t, rfl, htk, hdel⟩ := hrel
              have hEw : Ext [] w wr := by
                obtain ⟨_, _, _, hE⟩ := hdel
                exact HE2.out.trans' hE (fun j hj => .inr (by have := HS1.out.hh; simp at hj; omega))
              have q4 := hEw.cell HK0.out.2.2.1 (by simp)
              have HEW := Lib.hid hEw
              have HDL := Lib.hid hdel
              clear hdel hEw q3
              by_cases hlt2 : t < a.n
              · obtain ⟨b2, off2, hbo, q1⟩ : ∃ b off, a.bo = some ⟨b, off, none⟩ ∧ wr.cell? ⟨b, off + t, none⟩ = some (.int .i64 (a.L t)) := by
                  rcases HK0.out.2.2.2 with h | ⟨b, off, h1, h2⟩
                  · omega
                  · exact ⟨b, off, h1, HEW.out.cell (h2 t hlt2) (by simp)⟩
                rw [hbo] at q4
                have HBO := Lib.hid hbo
                clear hbo
                obtain ⟨w5, hset, hdel5⟩ := HDL.out.step (a.L t)
                have H5 : Hid (HDel w2 w5 hb l (lst a.L (t + 1))) := by
                  unfold Hid
                  rw [lst_succ]
                  exact hdel5
                clear hdel5
                go_wp2
                go_roundg (a.n - (t + 1))
                case measure => omega
                case rel => exact ⟨t + 1, by go_num, by omega, H5.out⟩
              · have hge : a.n ≤ t := by omega
                have hp2' := HK.out.1
                rw [HS2.out] at hp2'
                obtain ⟨l5, hst5⟩ := HS1.out.removed hp2' HK.out.2.1 HK.out.2.2.2 (by have := HDL.out; rwa [show t = a.n from by omega] at this)
                have H5 := Lib.hid hst5
                clear hst5 hp2'
                obtain ⟨S6, hS6⟩ : ∃ S6, S6 = allL S false (lst a.L a.n) := ⟨_, rfl⟩
                rw [← hS6] at H5
                clear hS6
                have hlen := run_lenMap (P := Try.prog) 42 3 3 3 Try.underlying42 H5.out.held
                have hl18 := H5.out.ok.len H5.out.held.nodup
                have hl5 : l5.length ≤ 18 := by omega
                have hf5 : (thoseL S6 false 3 18).length ≤ 18 := by omega
                have hw18 : (((l5.length : Int) + ((thoseL S6 false 3 18).length : Int)) != 18) = false := by rw [hl18]; rfl
                clear hl18
                go_wp2_with fail
                refine (al_Free c mb2 3 18 S6 _ (by omega) (by omega) H5.out.pool).mono ?_
                rintro e w6 ⟨rfl, hE6⟩
                have H6 := Lib.hid (H5.out.ext1 hE6)
                clear hE6
                go_wp2
                go_roundg (n - (j + 1))
                case measure => omega
                case rel => exact ⟨j + 1, _, S6, l5, by go_num, by omega, by simpa using H6.out⟩
          · have hb0 : (er == 0) = false := by simpa using her
            have hp2' := HK.out.1
            rw [hS2] at hp2'
            obtain ⟨l5, hst5⟩ : ∃ l5, HSt w w2 c hb mb2 S l5 ((j : Int) + 1) := ⟨l, (HS1.out.new hp2' HK.out.2.1 HK.out.2.2.1 HS1.out.ok HS1.out.cnt).up⟩
            have H5 := Lib.hid hst5
            clear hst5 hp2' her hS2
            go_wp2_with fail
            refine (al_num _ _).mono ?_
            rintro e w' ⟨rfl, rfl⟩
            obtain ⟨S6, hS6⟩ : ∃ S6, S6 = S := ⟨_, rfl⟩
            rw [← hS6] at H5
            clear hS6
            have hlen := run_lenMap (P := Try.prog) 42 3 3 3 Try.underlying42 H5.out.held
            have hl18 := H5.out.ok.len H5.out.held.nodup
            have hl5 : l5.length ≤ 18 := by omega
            have hf5 : (thoseL S6 false 3 18).length ≤ 18 := by omega
            have hw18 : (((l5.length : Int) + ((thoseL S6 false 3 18).length : Int)) != 18) = false := by rw [hl18]; rfl
            clear hl18
            go_wp2_with fail
            refine (al_Free c mb2 3 18 S6 _ (by omega) (by omega) H5.out.pool).mono ?_
            rintro e w6 ⟨rfl, hE6⟩
            have H6 := Lib.hid (H5.out.ext1 hE6)
            clear hE6
            go_wp2
            go_roundg (n - (j + 1))
            case measure => omega
            case rel => exact ⟨j + 1, _, S6, l5, by go_num, by omega, by simpa using H6.out⟩
        · have hb0 : (a.what == 0) = false := by simpa using x0
          have hb1 : (a.what == 1) = false := by simpa using x1
          obtain ⟨l5, hst5⟩ : ∃ l5, HSt w w1 c hb mb S l5 ((j : Int) + 1) := ⟨l, HS1.out.up⟩
          have H5 := Lib.hid hst5
          clear hst5 x0 x1
          obtain ⟨S6, hS6⟩ : ∃ S6, S6 = S := ⟨_, rfl⟩
          rw [← hS6] at H5
          clear hS6
          have hlen := run_lenMap (P := Try.prog) 42 3 3 3 Try.underlying42 H5.out.held
          have hl18 := H5.out.ok.len H5.out.held.nodup
          have hl5 : l5.length ≤ 18 := by omega
          have hf5 : (thoseL S6 false 3 18).length ≤ 18 := by omega
          have hw18 : (((l5.length : Int) + ((thoseL S6 false 3 18).length : Int)) != 18) = false := by rw [hl18]; rfl
          clear hl18
          go_wp2_with fail
          refine (al_Free c mb 3 18 S6 _ (by omega) (by omega) H5.out.pool).mono ?_
          rintro e w6 ⟨rfl, hE6⟩
          have H6 := Lib.hid (H5.out.ext1 hE6)
          clear hE6
          go_wp2
          go_roundg (n - (j + 1))
          case measure => omega
          case rel => exact ⟨j + 1, _, S6, l5, by go_num, by omega, by simpa using H6.out⟩
      · have hge : n ≤ j := by omega
        have hS := Lib.hid HS.out
        go_wp2_with fail
        refine (al_Free c mb 3 18 S wr (by omega) (by omega) HS.out.pool).mono ?_
        rintro e w1 ⟨rfl, hE1⟩
        have HS1 := Lib.hid (HS.out.ext1 hE1)
        clear hE1
        go_wp2_with fail
        refine (h_take HS1.out (by omega) many HM.out).mono ?_
        rintro e w2 ⟨ao2, cap2, ks, er, mb2, rfl, hI2, hN2, hp2, hE2, hnm2, hl18, hnd, hfree, her, her0⟩
        have HE2 : Hid (Ext [] w w2) := HS1.out.ext.trans' hE2 (fun j hj => .inr (by have := HS1.out.hc; simp at hj; omega))
        have HK := Lib.hid (And.intro hI2 (And.intro hp2 (And.intro hnd (And.intro hfree her0))))
        clear hI2 hN2 hp2 hE2 hnm2 hnd hfree her her0
        by_cases hz : er = 0
        · subst hz
          obtain ⟨S3, hg3, hsame⟩ := give_taken S 3 18 ks HK.out.2.2.1 (fun k hk => by have := HK.out.2.2.2.1 k hk; exact ⟨this.1, by omega, this.2.2⟩)
          have HG3 := Lib.hid hg3
          have HSM := Lib.hid (thoseL_congr false 3 18 hsame)
          clear hg3 hsame
          go_wp2_with (go_at_call 25; refine (al_num _ _).mono ?_; rintro e w' ⟨rfl, rfl⟩)
          refine (al_give_ok c mb2 3 18 (allL S true ks) S3 0 ao2 ks.length cap2 (fun i => ks.getD i 0) w2 HK.out.2.1 HK.out.1 (by omega) (CntB.of (cntB_all HS1.out.cnt) (by omega)) (by rw [lst_getD]; exact HG3.out)).mono ?_
          rintro e w3 ⟨rfl, hE3, mb3, hp3, _⟩
          have H3 := Lib.hid (And.intro hp3 (HE2.out.trans' hE3 (fun j hj => .inr (by have := HS1.out.hc; simp at hj; omega))))
          clear hp3 hE3
          go_wp2_with (go_at_call 25; refine (al_num _ _).mono ?_; rintro e w' ⟨rfl, rfl⟩)
          refine (al_Free c mb3 3 18 S3 w3 (by omega) (by omega) H3.out.1).mono ?_
          rintro e w4 ⟨rfl, hE4⟩
          have H4 := Lib.hid (H3.out.2.trans hE4)
          have heq : (((thoseL S3 false 3 18).length : Int) == ((thoseL S false 3 18).length : Int)) = true := by rw [HSM.out]; simp
          clear hE4
          go_wp2_with (go_at_call 21; refine (HW.out _).mono ?_; rintro e w' ⟨rfl, hE⟩)
          go_ret
          exact ⟨rfl, H4.out.trans hE⟩
        · have hb0 : (er == 0) = false := by simpa using hz
          have hp2 := HK.out.2.1
          rw [HK.out.2.2.2.2 hz, allL_nil] at hp2
          have HP2 := Lib.hid hp2
          clear hp2 hz
          go_wp2_with (go_at_call 25; refine (al_num _ _).mono ?_; rintro e w' ⟨rfl, rfl⟩)
          refine (al_Free c mb2 3 18 S w2 (by omega) (by omega) HP2.out).mono ?_
          rintro e w4 ⟨rfl, hE4⟩
          have H4 := Lib.hid (HE2.out.trans hE4)
          have heq : (((thoseL S false 3 18).length : Int) == ((thoseL S false 3 18).length : Int)) = true := by simp
          clear hE4
          go_wp2_with (go_at_call 21; refine (HW.out _).mono ?_; rintro e w' ⟨rfl, hE⟩)
          go_ret
          exact ⟨rfl, H4.out.trans hE⟩
end Go.Proofs.Ytgpoplnfhlfogaa
