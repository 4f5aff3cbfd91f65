/-
  slices.Sort and slices.Clone at []int, as the printed functions call them.
-/
import Derived.Test.YtkppdmlellmepaaShelf
import Derived.Test.YtkppdmlellmepaaPBx0
import Derived.Sort.OwnSortedInts
namespace Go.Proofs.Ytkppdmlellmepaa
open Go.RowKit Go.Proofs.YtkppdmlellmepaaW.PrintWords Go.Proofs.YtkppdmlellmepaaW.PrintLast Go.Proofs.YtkppdmlellmepaaW.PrintMore
open PB

/-- sorted, rising. -/
def sorted (l : List Int) : List Int := l.mergeSort fun x y => decide (x ≤ y)

theorem sorted_length (l : List Int) : (sorted l).length = l.length := List.length_mergeSort _

/-- slices.Sort of a row of the caller's own. -/
theorem sort_calls {base : Nat} {ok : Nat → Prop} {v : Value} {l : List Int} {w : World} (h : Kd.R (Kd.int .i64) 3 w base ok v l) (hs : l.length < 4611686018427387904) :
    Calls Try.prog 40 #[v] w fun e w' => e = .returned (.tuple #[]) ∧ Kd.R (Kd.int .i64) 3 w' base ok v (sorted l) ∧ w.grownBy w' v.ownBlock := by
  have ho := Kd.own_of_R h
  cases hl : l with
  | nil =>
    subst hl
    obtain ⟨A, c, hv⟩ := Kd.R_slice h
    subst hv
    refine (Try.slices_Sort_int_none A c w).mono fun e w' ⟨he, hw⟩ => ?_
    subst hw
    have e0 : sorted [] = [] := by simp [sorted]
    rw [e0]
    exact ⟨he, h, grown_of_below (Below.refl _ _) _⟩
  | cons x xs =>
    have hp : 0 < l.length := by rw [hl]; simp
    rw [← hl]
    rcases ho.2 with ⟨_, h0⟩ | ⟨g, cap, cur, hv, hb, hh, h1, h2, h3, h4⟩
    · omega
    · subst hv
      have hH := holds_of_blockI (ss := l) hh (by simpa [encs] using h4)
      refine (Try.slices_Sort_int g 0 cap l w hH (Array.getElem?_eq_some_iff.1 hh).1 hs).mono fun e w' ⟨he, n, os, hw⟩ => ?_
      subst hw
      have hown := ownsRow_sortedI (n := n) (os := os) (ss := l) (ts := sorted l) (sorted_length l) hb hh h1 h2 h3
      refine ⟨he, ?_, grownBy_sortedI _⟩
      exact Kd.R_of_own (by rw [sorted_length]; exact hown) (fun k hk => h.1 k hk)

/-- slices.Clone of a row that is read. -/
theorem clone_calls {A : Option Addr} {c : Nat} {l : List Int} {w : World} (h : Kd.C (Kd.int .i64) w A l.length l) (hs : l.length * 8 ≤ 140737488355328) :
    Calls Try.prog 36 #[.slice A l.length c] w fun e w' => ∃ v, e = .returned v ∧ Kd.R (Kd.int .i64) 3 w' w.heap.size (fun _ => True) v l ∧ Below w.heap.size w w' := by
  cases A with
  | none =>
    cases l with
    | nil =>
      refine (Try.slices_Clone_int_nil 0 c w).mono fun e w' ⟨he, hw⟩ => ?_
      subst hw
      exact ⟨_, he, Kd.R_nil _ _ _ _ _, Below.refl _ _⟩
    | cons x xs =>
      obtain ⟨ad, e, _⟩ := Kd.at_int h 0 (by omega) (by simp)
      cases e
  | some a =>
    cases hl : l with
    | nil =>
      refine (Try.slices_Clone_int_zero a c w).mono fun e w' ⟨v, he, ho, _, hb⟩ => ?_
      exact ⟨v, he, Kd.R_of_own ho (fun _ _ => trivial), hb⟩
    | cons x xs =>
      rw [← hl]
      have hp : 0 < l.length := by rw [hl]; simp
      have hat : ∀ j, j < l.length → w.cell? (a.add j) = some (.int .i64 (l.getD j 0)) := fun j hj => by
        obtain ⟨ad, e, hc⟩ := Kd.at_int h (j : Int) (by omega) (by omega)
        injection e with e
        subst e
        simpa [rd] using hc
      have hsp : a.spot = none := by
        have h0 := hat 0 hp
        simp only [Addr.add, if_true] at h0
        cases hs : a.spot with
        | none => rfl
        | some q =>
          exfalso
          unfold World.cell? at h0
          split at h0
          · simp [hs] at h0
          · simp at h0
      obtain ⟨b, off, sp⟩ := a
      simp only at hsp
      subst hsp
      refine (Try.slices_Clone_int b off l.length c l w (Nat.le_refl _) hs (fun j hj => ?_)).mono fun e w' ⟨v, he, ho, _, hb⟩ => ?_
      · have := hat j hj
        simp only [Addr.add] at this
        split at this
        · rename_i h0
          subst h0
          exact this
        · exact this
      · rw [List.take_length] at ho
        exact ⟨v, he, Kd.R_of_own ho (fun _ _ => trivial), hb⟩

/-- What slices.Clone answers. -/
def Ext.Clone.f (l0 : List Int) : Option (List Int) := if l0.length ≤ 1000000 then some l0 else none
theorem Ext.Clone.calls (A0 : Option Addr) (c0 : Nat) (l0 : List Int) (r : List Int) (w : World) (hr0 : Kd.C (Kd.int .i64) w A0 l0.length l0) (_hc0 : l0.length ≤ c0) (h : Ext.Clone.f l0 = some r) :
    Calls Try.prog 36 #[.slice A0 l0.length c0] w fun e w' => ∃ v0_ : Value, e = .returned (v0_) ∧ Kd.R (Kd.int .i64) 3 w' w.heap.size (fun _ => True) v0_ r ∧ Below w.heap.size w w' := by
  unfold Ext.Clone.f at h
  by_cases hl : l0.length ≤ 1000000
  · rw [if_pos hl] at h
    injection h with h
    subst h
    exact clone_calls hr0 (by omega)
  · rw [if_neg hl] at h; exact absurd h (by simp)

/-- What slices.Sort leaves. -/
def Ext.Sort.f (l0 : List Int) : Option (List Int) := if l0.length ≤ 1000000 then some (sorted l0) else none
theorem Ext.Sort.calls (P0_ : Nat → Prop) (u9000_ : Value) (l0 : List Int) (r : List Int) (w0 w : World) (hB : Below w0.heap.size w0 w) (ho0 : Kd.R (Kd.int .i64) 3 w w0.heap.size P0_ u9000_ l0) (h : Ext.Sort.f l0 = some r) :
    Calls Try.prog 40 #[u9000_] w fun e w' => e = .returned (.tuple #[]) ∧ Kd.R (Kd.int .i64) 3 w' w0.heap.size (fun k_ => (P0_ k_ ∨ w.heap.size ≤ k_)) u9000_ r ∧ Below w0.heap.size w0 w' ∧ Kept w w' (fun k_ => P0_ k_) := by
  unfold Ext.Sort.f at h
  by_cases hl : l0.length ≤ 1000000
  · rw [if_pos hl] at h
    injection h with h
    subst h
    refine (sort_calls ho0 (by omega)).mono fun e w' ⟨he, hR, hg⟩ => ?_
    exact ⟨he, Kd.R_mono hR (fun k hk => .inl hk), pw_below_grown hB _ hB.size hg (fun k hk => Kd.R_base ho0 k hk), Kept.of_grown hg (Kept.refl _ _) (fun k hk => .inl (ho0.1 k hk))⟩
  · rw [if_neg hl] at h; exact absurd h (by simp)
end Go.Proofs.Ytkppdmlellmepaa
