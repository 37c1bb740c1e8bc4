/- Package limbo: Lent, Retire (printed by wip/mkLmE.py). -/
import Derived.Test.YtgpoplnfhlfogaaLmD
namespace Go.Proofs.Ytgpoplnfhlfogaa
open Go Go.RowKit Go.Shelf
attribute [local go_sem] Oper.semAt_some

/-- is a line lent? -/
def lentB (S : Lns) (now : Int) (G : Nat → List Int) (k : Int) : Bool := (S k).1 && (look (waitsE now G) k).isNone
set_option maxRecDepth 100000 in
set_option maxHeartbeats 2000000 in
theorem lm_Lent (b c m p mb : Nat) (lo : Int) (n : Nat) (now : Int) (l : Ents) (S : Lns) (G : Nat → List Int) (ga : Nat → Option Addr) (gc : Nat → Nat) (k : Int) (w : World) (h : LimAt w b c m p mb lo n now l S G ga gc) (hl0 : 0 ≤ now) (hl1 : now ≤ 1073741824) (hG : ∀ k, k < 3 → (G k).length ≤ 400000) :
    Calls Try.prog 58 #[.pointer (some ⟨b, 0, none⟩), .int .i64 k] w fun e w' => e = .returned (.bool (lentB S now G k)) ∧ Ext [] w w' := by
  have HWT := Lib.hid (lm_waits b c m p mb lo n now l S G ga gc w h hl0 hl1 (fun k hk => by have := hG k hk; omega))
  have H := Lib.hid h
  unfold lentB
  obtain ⟨Es, hEs⟩ : ∃ Es, waitsE now G = Es := ⟨_, rfl⟩
  rw [hEs] at HWT ⊢
  obtain ⟨t, ht⟩ : ∃ t, (S k).1 = t := ⟨_, rfl⟩
  rw [ht]
  have HTT := Lib.hid ht
  clear h hEs hG ht
  go_enter Try.func58, Try.ntmps58
  go_wp2_with fail
  refine HWT.out.mono ?_
  rintro e W1 ⟨nb, rfl, hE1, hM1, _⟩
  have hlk := run_look_ok (P := Try.prog) 42 3 3 (.int .i64 0) Try.underlying42 Try.underlying3 (zeroI W1) hM1 k
  have HT := Lib.hid (lm_Taken b c m p mb lo n now l S G ga gc k W1 (H.out.ext0 hE1))
  have HE := Lib.hid hE1
  clear hE1 hM1
  rw [HTT.out] at HT
  cases hl : look Es k with
  | none =>
    rw [hl] at hlk
    simp only [Option.getD_none, Option.isSome_none] at hlk
    cases t <;> go_wp2_with (go_at_call 61; refine HT.out.mono ?_; rintro e w' ⟨rfl, rfl⟩)
    all_goals
      go_ret
      exact ⟨ret_bool (by simp [hl]), HE.out⟩
  | some v =>
    rw [hl] at hlk
    simp only [Option.getD_some, Option.isSome_some] at hlk
    cases t <;> go_wp2_with (go_at_call 61; refine HT.out.mono ?_; rintro e w' ⟨rfl, rfl⟩)
    all_goals
      go_ret
      exact ⟨ret_bool (by simp [hl]), HE.out⟩
/-- which lines may be retired -/
def okRet (S : Lns) (now : Int) (G : Nat → List Int) (Ls : List Int) : Bool := decide Ls.Nodup && Ls.all (lentB S now G)
def retE (S : Lns) (lo : Int) (n : Nat) (now : Int) (G : Nat → List Int) (Ls : List Int) : Int :=
  if Ls.all (hasB lo (lo + (n : Int) - 1)) = true then (if okRet S now G Ls = true then 0 else 250) else 4
def q3 (now : Int) : Nat := (now % 3).toNat
/-- what Retire answers, and how the limbo stands then -/
def RetPost (b c m p mb : Nat) (lo : Int) (n : Nat) (now : Int) (l : Ents) (S : Lns) (G : Nat → List Int) (ga : Nat → Option Addr) (gc : Nat → Nat) (Ls : List Int) (er : Int) (w : World) (e : Ending) (w' : World) : Prop :=
  e = .returned (.int .i64 er) ∧ (er ≠ 0 → Ext [] w w') ∧ (er = 0 → Ext [b] w w' ∧ ∃ ao' cap', LimAt w' b c m p mb lo n now l S (gon G (q3 now) (G (q3 now) ++ Ls)) (gaN ga (q3 now) ao') (gcN gc (q3 now) cap') ∧ ∀ x, ao' = some x → w.heap.size ≤ x.block)
theorem all_take_succ {f : Int → Bool} {L : List Int} {i : Nat} (h : i < L.length) (h1 : (L.take i).all f = true) (h2 : f (L.getD i 0) = true) : (L.take (i + 1)).all f = true := by
  rw [take_succ_getD h, List.all_append, h1]
  simp only [List.all_cons, List.all_nil, Bool.and_true, Bool.true_and]
  exact h2
theorem all_false_at {f : Int → Bool} {L : List Int} {i : Nat} (h : i < L.length) (h2 : f (L.getD i 0) = false) : L.all f = false := by
  rw [List.all_eq_false]
  refine ⟨L[i], List.getElem_mem h, ?_⟩
  have : L.getD i 0 = L[i] := by simp [h]
  rw [← this, h2]
  simp
theorem look_putK (a : Int) : ∀ (L : List Int) (E : Ents) (k : Int), look (putK E a L) k = if k ∈ L then some (.int .i64 a) else look E k
  | [], E, k => by simp [putK]
  | x :: L, E, k => by
    show look (putK (upd E x (.int .i64 a)) a L) k = _
    rw [look_putK a L, look_upd]
    by_cases h1 : k ∈ L
    · rw [if_pos h1, if_pos (List.mem_cons_of_mem _ h1)]
    · rw [if_neg h1]
      by_cases h2 : k = x
      · subst h2
        rw [if_pos rfl, if_pos (List.mem_cons_self ..)]
      · rw [if_neg h2, if_neg (by simp [h1, h2])]
set_option maxRecDepth 100000 in
set_option maxHeartbeats 8000000 in
theorem lm_Retire (b c m p mb : Nat) (lo : Int) (n : Nat) (now : Int) (l : Ents) (S : Lns) (G : Nat → List Int) (ga : Nat → Option Addr) (gc : Nat → Nat) (ao : Option Addr) (cap : Nat) (Ls : List Int) (w : World) (h : LimAt w b c m p mb lo n now l S G ga gc) (hl0 : 0 ≤ now) (hl1 : now ≤ 1073741824) (hG : ∀ k, k < 3 → (G k).length ≤ 400000) (hI : IntsB w ao Ls.length (fun i => Ls.getD i 0)) (hn : Ls.length ≤ 400000) :
    Calls Try.prog 44 #[.pointer (some ⟨b, 0, none⟩), .slice ao Ls.length cap] w (RetPost b c m p mb lo n now l S G ga gc Ls (retE S lo n now G Ls) w) := by
  have hmm := @run_makeMap Try.prog
  obtain ⟨W, hW⟩ : ∃ W, w.alloc (.map #[] 0) = W := ⟨_, rfl⟩
  obtain ⟨nb, hnb⟩ : ∃ nb, w.heap.size = nb := ⟨_, rfl⟩
  have hE : Ext [] w W := by rw [← hW]; exact (Ext.refl _ _).alloc _
  have hM : IMap W nb [] := by rw [← hW, ← hnb]; exact IMap.made w
  have HN := Lib.hid (lm_none b c m p mb lo n now l S G ga gc W (h.ext0 hE))
  obtain ⟨M, hMl⟩ : ∃ M, Ls.length = M := ⟨_, rfl⟩
  obtain ⟨er, her⟩ : ∃ er, retE S lo n now G Ls = er := ⟨_, rfl⟩
  have H := Lib.hid (And.intro hE (And.intro hM (And.intro h (And.intro hG (And.intro hI (And.intro hn (And.intro hl0 (And.intro hl1 (And.intro hnb (And.intro hMl her))))))))))
  rw [hMl, her]
  clear hE hM h hI hn hMl hl0 hl1 hG her
  go_enter Try.func44, Try.ntmps44
  go_wp2_with fail
  refine wp_scope_ahead 0 rfl ?_
  go_wp2_with fail
  try rw [hW]
  try rw [hnb]
  clear hW hnb hmm
  refine HN.out.mono ?_
  rintro e w' ⟨rfl, rfl⟩
  clear HN
  go_wp2_with fail
  go_loopg [4, 15] M (fun k v4 i wr => ∃ i0 : Nat, i = .int .i64 (i0 : Int) ∧ i0 + k = M ∧ (Ls.take i0).all (hasB lo (lo + (n : Int) - 1)) = true ∧ IMap wr nb [] ∧ Ext [] w wr)
  case atStart => exact ⟨0, rfl, by omega, rfl, H.out.2.1, H.out.1⟩
  case round =>
    obtain ⟨i0, rfl, hik, hall, hM, hE⟩ := hrel
    by_cases hil : i0 < M
    · obtain ⟨g, off, rfl, e2⟩ : ∃ g off, ao = some ⟨g, off, none⟩ ∧ wr.cell? ⟨g, off + i0, none⟩ = some (.int .i64 (Ls.getD i0 0)) := by
        have hx := H.out.2.2.2.2.1.ext hE
        rw [H.out.2.2.2.2.2.2.2.2.2.1] at hx
        rcases hx with h0 | ⟨g, off, h1, h2⟩
        · omega
        · exact ⟨g, off, h1, h2 i0 hil⟩
      obtain ⟨key, hkey⟩ : ∃ key, Ls.getD i0 0 = key := ⟨_, rfl⟩
      rw [hkey] at e2
      have k1 := cell_of (j := 1) (v := .pointer (some ⟨p, 0, none⟩)) (H.out.2.2.1.ext0 hE).blk rfl
      have HC := Lib.hid (al_Count p mb lo _ S key wr (H.out.2.2.1.ext0 hE).pool)
      have hi0 : (0 : Int) ≤ (i0 : Int) := by omega
      have hi1 : (i0 : Int) < (M : Int) := by omega
      have hwi : wrap64 ((i0 : Int) + 1) = (i0 : Int) + 1 := IntWalk.wrap64_in _ (by have := H.out.2.2.2.2.2; omega)
      cases hb : hasB lo (lo + (n : Int) - 1) key with
      | true =>
        have HA : Hid ((Ls.take (i0 + 1)).all (hasB lo (lo + (n : Int) - 1)) = true) := all_take_succ (by rw [H.out.2.2.2.2.2.2.2.2.2.1]; exact hil) hall (by rw [hkey]; exact hb)
        have HK := Lib.hid (And.intro hik (And.intro hil (And.intro hM hE)))
        unfold countN at HC
        rw [hb] at HC
        simp only [if_true] at HC
        obtain ⟨cn, hcn⟩ : ∃ cn, (S key).2 = cn := ⟨_, rfl⟩
        rw [hcn] at HC
        clear hall hM hE hil hik hkey hb hcn
        go_wp2_with fail
        refine HC.out.mono ?_
        rintro e w5 ⟨rfl, hE5⟩
        have H5 := Lib.hid hE5
        clear hE5
        go_wp2
        go_roundg (M - (i0 + 1))
        case measure => have := HK.out; omega
        case rel => exact ⟨i0 + 1, by first | (rw [hwi]; rfl) | rfl, by have := HK.out; omega, HA.out, HK.out.2.2.1.ext H5.out (by simp), HK.out.2.2.2.trans H5.out⟩
      | false =>
        have HA : Hid (er = 4) := by
          have := H.out.2.2.2.2.2.2.2.2.2.2
          rw [← this]
          show retE S lo n now G Ls = 4
          unfold retE
          rw [all_false_at (by rw [H.out.2.2.2.2.2.2.2.2.2.1]; exact hil) (by rw [hkey]; exact hb)]
          rfl
        have HK := Lib.hid hE
        unfold countN at HC
        rw [hb] at HC
        simp only [Bool.false_eq_true, if_false] at HC
        clear hall hM hE hil hik hkey hb
        go_wp2_with fail
        refine HC.out.mono ?_
        rintro e w5 ⟨rfl, hE5⟩
        have H5 := Lib.hid hE5
        clear hE5
        go_wp2_with fail
        go_step3
        simp only [Exit.inBlock, Exit.then]
        refine ⟨rfl, ?_⟩
        go_wp2
        rw [Exit.noGoto_ret]
        go_ret
        exact ⟨by rw [HA.out]; rfl, fun _ => HK.out.trans H5.out, fun h0 => by rw [HA.out] at h0; cases h0⟩
    · obtain rfl : M = i0 := by omega
      have hall2 : Ls.all (hasB lo (lo + (n : Int) - 1)) = true := by
        have := hall
        rwa [List.take_of_length_le (by rw [H.out.2.2.2.2.2.2.2.2.2.1]; exact Nat.le_refl _)] at this
      have HER : Hid (er = if okRet S now G Ls = true then 0 else 250) := by
        have := H.out.2.2.2.2.2.2.2.2.2.2
        rw [← this]
        show retE S lo n now G Ls = _
        unfold retE
        rw [if_pos hall2]
      have HK := Lib.hid (And.intro hM hE)
      clear hall hall2 hM hE hil hik
      go_wp2_with fail
      go_loopg [33] M (fun k i wr => ∃ i0 : Nat, i = .int .i64 (i0 : Int) ∧ i0 + k = M ∧ (Ls.take i0).all (lentB S now G) = true ∧ (Ls.take i0).Nodup ∧ IMap wr nb (putK [] 1 (Ls.take i0)) ∧ Ext [] w wr)
      case atStart => exact ⟨0, rfl, by omega, by simp, by simp, by simpa [putK] using HK.out.1, HK.out.2⟩
      case round =>
        obtain ⟨i0, rfl, hik, hall, hnd, hM, hE⟩ := hrel
        obtain ⟨_, _, hL, hG, hI, hn, hl0, hl1, hnb, hMl, _⟩ := H.out
        by_cases hil : i0 < M
        · obtain ⟨g, off, rfl, e2⟩ : ∃ g off, ao = some ⟨g, off, none⟩ ∧ wr.cell? ⟨g, off + i0, none⟩ = some (.int .i64 (Ls.getD i0 0)) := by
            have hx := hI.ext hE
            rw [hMl] at hx
            rcases hx with h0 | ⟨g, off, h1, h2⟩
            · omega
            · exact ⟨g, off, h1, h2 i0 hil⟩
          obtain ⟨key, hkey⟩ : ∃ key, Ls.getD i0 0 = key := ⟨_, rfl⟩
          rw [hkey] at e2
          have hlk := run_look_at (P := Try.prog) 42 3 3 (.int .i64 0) Try.underlying42 Try.underlying3 (zeroI wr) hM key
          rw [look_putK] at hlk
          have hi0 : (0 : Int) ≤ (i0 : Int) := by omega
          have hi1 : (i0 : Int) < (M : Int) := by omega
          have hwi : wrap64 ((i0 : Int) + 1) = (i0 : Int) + 1 := IntWalk.wrap64_in _ (by omega)
          have hiL : i0 < Ls.length := by rw [hMl]; exact hil
          have htk := take_succ_getD hiL
          rw [hkey] at htk
          by_cases hmem : key ∈ Ls.take i0
          · rw [if_pos hmem] at hlk
            simp only [Option.getD_some] at hlk
            have HA : Hid (er = 250) := by
              show er = 250
              rw [HER.out, if_neg]
              unfold okRet
              rw [decide_eq_false, Bool.false_and]
              · simp
              · intro hnd2
                have h3 := hnd2.sublist (List.take_sublist (i0 + 1) Ls)
                rw [htk] at h3
                exact (List.nodup_append.1 h3).2.2 _ hmem _ (List.mem_singleton.2 rfl) rfl
            have HE := Lib.hid hE
            clear hall hnd hM hE hL hG hI hn hl0 hl1 hnb hMl hil hik hkey htk hmem
            go_wp2_with fail
            go_step3
            simp only [Exit.inBlock, Exit.then]
            refine ⟨rfl, ?_⟩
            go_wp2
            rw [Exit.noGoto_ret]
            go_ret
            exact ⟨by rw [HA.out]; rfl, fun _ => HE.out, fun h0 => by rw [HA.out] at h0; cases h0⟩
          · rw [if_neg hmem] at hlk
            simp only [look, Option.getD_none] at hlk
            have HL := Lib.hid (lm_Lent b c m p mb lo n now l S G ga gc key wr (hL.ext0 hE) hl0 hl1 hG)
            cases hlb : lentB S now G key with
            | false =>
              rw [hlb] at HL
              have HA : Hid (er = 250) := by
                show er = 250
                rw [HER.out, if_neg]
                unfold okRet
                rw [all_false_at (f := lentB S now G) (L := Ls) (i := i0) hiL (by rw [hkey]; exact hlb), Bool.and_false]
                simp
              have HE := Lib.hid hE
              clear hall hnd hM hE hL hG hI hn hl0 hl1 hnb hMl hil hik hkey htk hmem hlb
              go_wp2_with fail
              refine HL.out.mono ?_
              rintro e w5 ⟨rfl, hE5⟩
              have H5 := Lib.hid (HE.out.trans hE5)
              clear hE5
              go_wp2_with fail
              go_step3
              simp only [Exit.inBlock, Exit.then]
              refine ⟨rfl, ?_⟩
              go_wp2
              rw [Exit.noGoto_ret]
              go_ret
              exact ⟨by rw [HA.out]; rfl, fun _ => H5.out, fun h0 => by rw [HA.out] at h0; cases h0⟩
            | true =>
              rw [hlb] at HL
              have HA : Hid ((Ls.take (i0 + 1)).all (lentB S now G) = true ∧ (Ls.take (i0 + 1)).Nodup) := by
                refine ⟨all_take_succ hiL hall (by rw [hkey]; exact hlb), ?_⟩
                rw [htk]
                refine List.nodup_append.2 ⟨hnd, by simp, fun x hx y hy e => ?_⟩
                rw [List.mem_singleton.1 hy] at e
                exact hmem (e ▸ hx)
              have HTK := Lib.hid htk
              have HK2 := Lib.hid (And.intro hik (And.intro hil (And.intro hM (And.intro hE hnb))))
              clear hall hnd hM hE hL hG hI hn hl0 hl1 hnb hMl hil hik hkey htk hmem hlb
              go_wp2_with fail
              refine HL.out.mono ?_
              rintro e w5 ⟨rfl, hE5⟩
              have hM5 := HK2.out.2.2.1.ext hE5 (by simp)
              obtain ⟨W6, hset, hE6, hm6, _⟩ := run_mapSet' (P := Try.prog) 42 3 3 Try.underlying42 Try.underlying3 hM5 key (.int .i64 1)
              have H6 : Hid (IMap W6 nb (putK [] 1 (Ls.take (i0 + 1))) ∧ Ext [] w W6) := by
                refine ⟨?_, (HK2.out.2.2.2.1.trans hE5).trans' hE6 (fun x hx => .inr (by simp at hx; have := HK2.out.2.2.2.2; omega))⟩
                rw [HTK.out, putK_snoc]
                exact hm6
              clear hE5 hM5 hE6 hm6
              go_wp2
              go_roundg (M - (i0 + 1))
              case measure => have := HK2.out; omega
              case rel => exact ⟨i0 + 1, by first | (rw [hwi]; rfl) | rfl, by have := HK2.out; omega, HA.out.1, HA.out.2, H6.out.1, H6.out.2⟩
        · obtain rfl : M = i0 := by omega
          have htk : Ls.take M = Ls := List.take_of_length_le (by omega)
          rw [htk] at hall hnd
          have HA : Hid (er = 0) := by
            show er = 0
            rw [HER.out, if_pos]
            unfold okRet
            rw [hall, Bool.and_true]
            exact decide_eq_true hnd
          have hLr := hL.ext0 hE
          have hqq : now.tmod 3 = ((q3 now : Nat) : Int) := by unfold q3; rw [Int.tmod_eq_emod_of_nonneg hl0]; omega
          have hq3 : q3 now < 3 := by unfold q3; omega
          have k0 := cell_of (j := 0) (v := .pointer (some ⟨c, 0, none⟩)) hLr.blk rfl
          have HNOW := Lib.hid (ep_now c m now l wr hLr.clk)
          have HLI := Lib.hid (lm_list now wr)
          rw [hqq] at HLI
          have HAD := Lib.hid (lm_add b c m p mb lo n now l S G ga gc (q3 now) ao cap Ls wr hLr hq3 (hI.ext hE) (hG _ hq3) (by omega))
          rw [hMl] at HAD
          have HE := Lib.hid hE
          clear hall hnd hM hE hL hG hI hn hl0 hl1 hnb hMl hil hik htk hLr hqq hq3
          go_wp2_with (first | (go_at_call 18; refine HNOW.out.mono ?_; rintro e w' ⟨rfl, rfl⟩) | (go_at_call 88; refine HLI.out.mono ?_; rintro e w' ⟨rfl, rfl⟩))
          refine HAD.out.mono ?_
          rintro e w7 ⟨rfl, hE7, ao', cap', hL7, hf7⟩
          have H7 := Lib.hid (And.intro (HE.out.wide.trans hE7) (And.intro hL7 (show ∀ x, ao' = some x → w.heap.size ≤ x.block from fun x hx => Nat.le_trans HE.out.size (hf7 x hx))))
          clear hE7 hL7 hf7
          go_wp2
          rw [jump_ret]
          go_ret
          exact ⟨by rw [HA.out]; rfl, fun h0 => absurd HA.out h0, fun _ => ⟨H7.out.1, ao', cap', H7.out.2.1, H7.out.2.2⟩⟩
end Go.Proofs.Ytgpoplnfhlfogaa
