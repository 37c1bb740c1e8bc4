/- A fibre and a device side by side: Step once more, in one form. -/
import Derived.Test.YtfojmjkcjdehaaaFbF
namespace Go.Proofs.Ytfojmjkcjdehaaa
open Go Go.RowKit Go.Shelf
attribute [local go_sem] Oper.semAt_some

/-- a step, in plain words: what is told, what is left, what was done, the device -/
structure StepR where
  t : Tch
  e : Int
  L : List Tch
  dn : List Tch
  D : Dv
def fstep (L dn : List Tch) (D : Dv) : StepR := match L with
  | [] => ⟨tch0, 5, [], dn, D⟩
  | t :: r => if playE D [t] = 0 then ⟨stepT D t, 0, r, dn ++ [stepT D t], playD D [t]⟩ else ⟨tch0, playE D [t], t :: r, dn, playD D [t]⟩
theorem playD_ok {D : Dv} (h : DvOk D) (L : List Tch) : DvOk (playD D L) := by
  unfold playD
  split
  · exact playL_ok h L
  · exact h
theorem playD_n (D : Dv) (L : List Tch) : (playD D L).n = D.n := by
  unfold playD
  split
  · exact playL_n D L
  · rfl
/-- a fibre and a device, made since N -/
structure FD (W : World) (N f d lb sb : Nat) (L dn : List Tch) (D : Dv) : Prop where
  fib : FibAt W N f L dn
  dev : DevAt W d lb sb D
  ok : DvOk D
  hd : N ≤ d
  hl : N ≤ lb
  hs : N ≤ sb
theorem FD.ext0 {W W' : World} {N f d lb sb : Nat} {L dn : List Tch} {D : Dv} (h : FD W N f d lb sb L dn D) (hE : Ext [] W W') : FD W' N f d lb sb L dn D := ⟨h.fib.ext0 hE, h.dev.ext0 hE, h.ok, h.hd, h.hl, h.hs⟩
theorem FD.noTc {W : World} {N f d lb sb : Nat} {L dn : List Tch} {D : Dv} (h : FD W N f d lb sb L dn D) : NoTc W N [f, d, lb, sb] := by
  intro q hq
  rcases List.mem_cons.1 hq with rfl | hq
  · exact h.fib.noTc _ (by simp)
  · exact h.dev.noTc h.hd h.hl h.hs (m := [d, lb, sb]) (fun j hj => by simpa using hj) q hq
theorem FD.fd {W : World} {N f d lb sb : Nat} {L dn : List Tch} {D : Dv} (h : FD W N f d lb sb L dn D) : f ∉ [d, lb, sb] := by
  obtain ⟨_, lo, lc, po, pc, h1, _⟩ := h.fib
  exact h.dev.noF h1
theorem FD.keep {W : World} {N f d lb sb b : Nat} {L dn : List Tch} {D : Dv} {cs : Array Value} {fr : Nat × Nat} (h : FD W N f d lb sb L dn D) (hb : W.heap[b]? = some (.cells cs 82 fr)) : b ∉ [f, d, lb, sb] := by
  obtain ⟨_, lo, lc, po, pc, h1, _⟩ := h.fib
  intro hq
  rcases List.mem_cons.1 hq with rfl | hq
  · rw [h1] at hb
    simp at hb
  · obtain ⟨⟨cl, cs', wv, g1, _⟩, ⟨c2, g2, _⟩, ⟨c3, g3, _⟩, _⟩ := h.dev
    simp at hq
    rcases hq with rfl | rfl | rfl
    · rw [g1] at hb; simp at hb
    · rw [g2] at hb; simp at hb
    · rw [g3] at hb; simp at hb
/-- what Step leaves -/
def StepP (W : World) (N f d lb sb : Nat) (r : StepR) (W' : World) : Prop := FD W' N f d lb sb r.L r.dn r.D ∧ Ext [f, d, lb, sb] W W'
theorem fb_StepF (N f d lb sb : Nat) (L dn : List Tch) (D : Dv) (w : World) (h : FD w N f d lb sb L dn D) (hb : dn.length ≤ 999999) :
    Calls Try.prog 38 #[.pointer (some ⟨f, 0, none⟩), .pointer (some ⟨d, 0, none⟩)] w fun e w' => e = .returned (.tuple #[.agg #[.int .i64 (fstep L dn D).t.kd, .int .i64 (fstep L dn D).t.at', .int .u64 (fstep L dn D).t.wd], .int .i64 (fstep L dn D).e]) ∧ StepP w N f d lb sb (fstep L dn D) w' := by
  cases L with
  | nil => exact (fb_Step_end f N dn d lb sb D w h.fib h.dev).mono fun e w' ⟨he, hE⟩ => ⟨he, h.ext0 hE, hE.wide⟩
  | cons t r =>
    by_cases hp : playE D [t] = 0
    · have hf : fstep (t :: r) dn D = ⟨stepT D t, 0, r, dn ++ [stepT D t], playD D [t]⟩ := if_pos hp
      rw [hf]
      exact (fb_Step_ok f N t r dn d lb sb D w h.fib h.dev h.ok h.hd h.hl h.hs hb hp).mono fun e w' ⟨he, hF, hD, hE⟩ => ⟨he, ⟨hF, hD, playD_ok h.ok _, h.hd, h.hl, h.hs⟩, hE⟩
    · have hf : fstep (t :: r) dn D = ⟨tch0, playE D [t], t :: r, dn, playD D [t]⟩ := if_neg hp
      rw [hf]
      exact (fb_Step_bad f N t r dn d lb sb D w h.fib h.dev h.ok h.hd h.hl h.hs hb hp).mono fun e w' ⟨he, hD, hE⟩ => ⟨he, ⟨h.fib.ext hE h.fd (h.dev.noTc h.hd h.hl h.hs (fun j hj => by simpa using hj)), hD, playD_ok h.ok _, h.hd, h.hl, h.hs⟩, hE.sub (fun q hq => List.mem_cons_of_mem _ hq)⟩
end Go.Proofs.Ytfojmjkcjdehaaa
