/- Devices: words that are seen, words that stay, lines that wait: the plain model. No program is named here. -/
import Derived.Test.YtjdojckemphadaaCore
namespace Go.Proofs.Ytjdojckemphadaa
open Go

/-- words by their number -/
abbrev Wd := Nat → Int
/-- a line that waits, and its words -/
abbrev Wt := Nat × Wd
structure Dv where
  n : Nat
  L : Wd
  S : Wd
  W : List Wt
/-- a line's words -/
def lineOf (F : Wd) (k : Nat) : Wd := fun i => F (8 * k + i)
/-- a line is another one -/
def setLn (F : Wd) (k : Nat) (G : Wd) : Wd := fun i => if i / 8 = k then G (i % 8) else F i
/-- what waits, but for a line -/
def wout (W : List Wt) (k : Int) : List Wt := W.filter fun p => !decide ((p.1 : Int) = k)
/-- waiting lines stay that are such -/
def stl (sel : Nat → Bool) : Nat → List Wt → Wd → Wd
  | _, [], S => S
  | i, p :: W, S => stl sel (i + 1) W (if sel i then setLn S p.1 p.2 else S)
def dvNew (n : Nat) : Dv := ⟨n, fun _ => 0, fun _ => 0, []⟩
def Dv.has (D : Dv) (at' : Int) : Bool := decide (0 ≤ at') && decide (at' < 8 * (D.n : Int))
def Dv.line (D : Dv) (k : Int) : Bool := decide (0 ≤ k) && decide (k < (D.n : Int))
def Dv.load (D : Dv) (at' : Int) : Int × Int := if D.has at' then (D.L at'.toNat, 0) else (0, 4)
def Dv.stays (D : Dv) (at' : Int) : Int × Int := if D.has at' then (D.S at'.toNat, 0) else (0, 4)
def Dv.put (D : Dv) (a : Nat) (w : Int) : Dv := { D with L := fun i => if i = a then w else D.L i }
def Dv.store (D : Dv) (at' : Int) (w : Int) : Dv × Int := if D.has at' then (D.put at'.toNat w, 0) else (D, 4)
def Dv.swap (D : Dv) (at' : Int) (fr to : Int) : Dv × Bool × Int := if D.has at' then (if D.L at'.toNat = fr then (D.put at'.toNat to, true, 0) else (D, false, 0)) else (D, false, 4)
def Dv.flush (D : Dv) (k : Int) : Dv × Int := if D.line k then ({ D with W := wout D.W k ++ [(k.toNat, lineOf D.L k.toNat)] }, 0) else (D, 4)
def Dv.settle (D : Dv) (sel : Nat → Bool) : Dv := { D with S := stl sel 0 D.W D.S, W := [] }
def Dv.fence (D : Dv) : Dv := D.settle fun _ => true
def Dv.evict (D : Dv) (k : Int) : Dv × Int := if D.line k then ({ D with S := setLn D.S k.toNat (lineOf D.L k.toNat), W := wout D.W k }, 0) else (D, 4)
def Dv.crash (D : Dv) (sel : Nat → Bool) : Dv := { (D.settle sel) with L := (D.settle sel).S }

/-- what holds of every device -/
structure DvOk (D : Dv) : Prop where
  n0 : 1 ≤ D.n
  n1 : D.n ≤ 1024
  lt : ∀ p ∈ D.W, p.1 < D.n
  nd : (D.W.map (·.1)).Nodup

theorem wout_mem {W : List Wt} {k : Int} {p : Wt} (h : p ∈ wout W k) : p ∈ W ∧ (p.1 : Int) ≠ k := by
  unfold wout at h
  rw [List.mem_filter] at h
  exact ⟨h.1, by simpa using h.2⟩
theorem wout_nodup {W : List Wt} {k : Int} (h : (W.map (·.1)).Nodup) : ((wout W k).map (·.1)).Nodup :=
  h.sublist ((List.filter_sublist (l := W)).map _)
theorem nodup_lt_len {l : List Nat} {n : Nat} (h : l.Nodup) (hl : ∀ x ∈ l, x < n) : l.length ≤ n := by
  have := h.length_le_of_subset (l₂ := List.range n) (fun x hx => List.mem_range.2 (hl x hx))
  simpa using this
theorem DvOk.len {D : Dv} (h : DvOk D) : D.W.length ≤ D.n := by
  have := nodup_lt_len h.nd (fun x hx => by obtain ⟨p, hp, rfl⟩ := List.mem_map.1 hx; exact h.lt p hp)
  simpa using this
theorem dvNew_ok {n : Nat} (h0 : 1 ≤ n) (h1 : n ≤ 1024) : DvOk (dvNew n) := ⟨h0, h1, (fun p hp => by cases hp), List.nodup_nil⟩
theorem Dv.put_ok {D : Dv} (h : DvOk D) (a : Nat) (w : Int) : DvOk (D.put a w) := ⟨h.n0, h.n1, h.lt, h.nd⟩
theorem Dv.store_ok {D : Dv} (h : DvOk D) (a : Int) (w : Int) : DvOk (D.store a w).1 := by
  unfold Dv.store; split <;> first | exact Dv.put_ok h _ _ | exact h
theorem Dv.swap_ok {D : Dv} (h : DvOk D) (a : Int) (f t : Int) : DvOk (D.swap a f t).1 := by
  unfold Dv.swap; split
  · split <;> first | exact Dv.put_ok h _ _ | exact h
  · exact h
theorem Dv.flush_ok {D : Dv} (h : DvOk D) (k : Int) : DvOk (D.flush k).1 := by
  unfold Dv.flush; split
  · rename_i hk
    unfold Dv.line at hk
    simp at hk
    refine ⟨h.n0, h.n1, fun p hp => ?_, ?_⟩
    · rcases List.mem_append.1 hp with hp | hp
      · exact h.lt p (wout_mem hp).1
      · simp at hp; subst hp; show k.toNat < D.n; omega
    · show ((wout D.W k ++ [(k.toNat, lineOf D.L k.toNat)]).map (·.1)).Nodup
      rw [List.map_append, List.nodup_append]
      refine ⟨wout_nodup h.nd, by simp, ?_⟩
      intro x hx y hy e
      obtain ⟨p, hp, rfl⟩ := List.mem_map.1 hx
      simp at hy
      have := (wout_mem hp).2
      omega
  · exact h
theorem Dv.settle_ok {D : Dv} (h : DvOk D) (sel : Nat → Bool) : DvOk (D.settle sel) := ⟨h.n0, h.n1, (fun p hp => by cases hp), List.nodup_nil⟩
theorem Dv.evict_ok {D : Dv} (h : DvOk D) (k : Int) : DvOk (D.evict k).1 := by
  unfold Dv.evict; split
  · exact ⟨h.n0, h.n1, fun p hp => h.lt p (wout_mem hp).1, wout_nodup h.nd⟩
  · exact h
theorem Dv.crash_ok {D : Dv} (h : DvOk D) (sel : Nat → Bool) : DvOk (D.crash sel) := ⟨h.n0, h.n1, (fun p hp => by cases hp), List.nodup_nil⟩
end Go.Proofs.Ytjdojckemphadaa
