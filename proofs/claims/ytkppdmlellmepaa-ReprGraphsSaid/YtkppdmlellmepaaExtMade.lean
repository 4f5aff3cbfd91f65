/-
  minors.made: a list of sets, sorted, each once, in new memory.
-/
import Derived.Test.YtkppdmlellmepaaShlf
import Derived.Test.YtkppdmlellmepaaPAx0
import Derived.Sort.OwnSortedInts
namespace Go.Proofs.Ytkppdmlellmepaa
open Go.RowKit Go.Proofs.YtkppdmlellmepaaW.PrintWords Go.Proofs.YtkppdmlellmepaaW.PrintLast Go.Proofs.YtkppdmlellmepaaW.PrintMore
open PA

/-- sorted, rising. -/
def sorted (l : List Int) : List Int := l.mergeSort fun x y => decide (x ≤ y)

theorem sorted_length (l : List Int) : (sorted l).length = l.length := List.length_mergeSort _

/-- slices.Sort of a row of the caller's own. -/
theorem sort_calls {base : Nat} {ok : Nat → Prop} {v : Value} {l : List Int} {w : World} (h : Kd.R (Kd.int .i64) 3 w base ok v l) (hs : l.length < 4611686018427387904) :
    Calls Try.prog 40 #[v] w fun e w' => e = .returned (.tuple #[]) ∧ Kd.R (Kd.int .i64) 3 w' base ok v (sorted l) ∧ w.grownBy w' v.ownBlock := by
  have ho := Kd.own_of_R h
  cases hl : l with
  | nil =>
    subst hl
    obtain ⟨A, c, hv⟩ := Kd.R_slice h
    subst hv
    refine (Try.slices_Sort_int_none A c w).mono fun e w' ⟨he, hw⟩ => ?_
    subst hw
    have e0 : sorted [] = [] := by simp [sorted]
    rw [e0]
    exact ⟨he, h, grown_of_below (Below.refl _ _) _⟩
  | cons x xs =>
    have hp : 0 < l.length := by rw [hl]; simp
    rw [← hl]
    rcases ho.2 with ⟨_, h0⟩ | ⟨g, cap, cur, hv, hb, hh, h1, h2, h3, h4⟩
    · omega
    · subst hv
      have hH := holds_of_blockI (ss := l) hh (by simpa [encs] using h4)
      refine (Try.slices_Sort_int g 0 cap l w hH (Array.getElem?_eq_some_iff.1 hh).1 hs).mono fun e w' ⟨he, n, os, hw⟩ => ?_
      subst hw
      have hown := ownsRow_sortedI (n := n) (os := os) (ss := l) (ts := sorted l) (sorted_length l) hb hh h1 h2 h3
      refine ⟨he, ?_, grownBy_sortedI _⟩
      exact Kd.R_of_own (by rw [sorted_length]; exact hown) (fun k hk => h.1 k hk)

theorem compact_le (l : List Int) : (Lib.compact l).length ≤ l.length := by
  unfold Lib.compact Lib.compactUpTo
  rw [List.length_map]
  exact Nat.le_trans (List.length_filter_le _ _) (by simp)

/-- slices.Compact of such a row. -/
theorem compact_calls {base : Nat} {ok : Nat → Prop} {A : Option Addr} {n c : Nat} {l : List Int} {w : World} (h : Kd.R (Kd.int .i64) 3 w base ok (.slice A n c) l) (hs : l.length < 4611686018427387904) :
    Calls Try.prog 64 #[.slice A n c] w fun e w' => e = .returned (.slice A (Lib.compact l).length c) ∧ Kd.R (Kd.int .i64) 3 w' base ok (.slice A (Lib.compact l).length c) (Lib.compact l) ∧ w.grownBy w' (Value.slice A n c).ownBlock := by
  obtain rfl := (Kd.R_reads' h).1
  have ho := Kd.own_of_R h
  cases hl : l with
  | nil =>
    subst hl
    refine (Try.slices_Compact_int_empty A c w).mono fun e w' ⟨he, hw⟩ => ?_
    subst hw
    exact ⟨he, h, grown_of_below (Below.refl _ _) _⟩
  | cons x xs =>
    have hp : 0 < l.length := by rw [hl]; simp
    rw [← hl]
    rcases ho.2 with ⟨_, h0⟩ | ⟨g, cap, cur, hv, hb, hh, h1, h2, h3, h4⟩
    · omega
    · injection hv with e1 e2 e3
      subst e1 e3
      have hH := holds_of_blockI (ss := l) hh (by simpa [encs] using h4)
      refine (Try.slices_Compact_int g 0 c l w hH (by omega) h1).mono fun e w' ⟨he, n, hw⟩ => ?_
      subst hw
      have hle := compact_le l
      have hts : (Lib.compact l ++ List.replicate (l.length - (Lib.compact l).length) 0).length = l.length := by simp; omega
      have hown := ownsRow_sortedI (n := n) (os := #[]) (ss := l) (ts := Lib.compact l ++ List.replicate (l.length - (Lib.compact l).length) 0) hts hb hh h1 h2 h3
      have hg := grownBy_sortedI (w := w) (g := g) (n := n) (os := #[]) (Lib.compact l ++ List.replicate (l.length - (Lib.compact l).length) 0).toArray
      rw [Sort.grow_empty] at hown hg
      have hR : Kd.R (Kd.int .i64) 3 _ base ok (.slice (some ⟨g, 0, none⟩) l.length c) (Lib.compact l ++ List.replicate (l.length - (Lib.compact l).length) 0) := Kd.R_of_own (by rw [hts]; exact hown) (fun k hk => h.1 k hk)
      have hT := Kd.R_take (m := (Lib.compact l).length) hR (by simp)
      rw [List.take_left'  rfl] at hT
      exact ⟨he, hT, hg⟩

/-- slices.Clone of a row that is read. -/
theorem clone_calls {A : Option Addr} {c : Nat} {l : List Int} {w : World} (h : Kd.C (Kd.int .i64) w A l.length l) (hs : l.length * 8 ≤ 140737488355328) :
    Calls Try.prog 36 #[.slice A l.length c] w fun e w' => ∃ v, e = .returned v ∧ Kd.R (Kd.int .i64) 3 w' w.heap.size (fun _ => True) v l ∧ Below w.heap.size w w' := by
  cases A with
  | none =>
    cases l with
    | nil =>
      refine (Try.slices_Clone_int_nil 0 c w).mono fun e w' ⟨he, hw⟩ => ?_
      subst hw
      exact ⟨_, he, Kd.R_nil _ _ _ _ _, Below.refl _ _⟩
    | cons x xs =>
      obtain ⟨ad, e, _⟩ := Kd.at_int h 0 (by omega) (by simp)
      cases e
  | some a =>
    cases hl : l with
    | nil =>
      refine (Try.slices_Clone_int_zero a c w).mono fun e w' ⟨v, he, ho, _, hb⟩ => ?_
      exact ⟨v, he, Kd.R_of_own ho (fun _ _ => trivial), hb⟩
    | cons x xs =>
      rw [← hl]
      have hp : 0 < l.length := by rw [hl]; simp
      have hat : ∀ j, j < l.length → w.cell? (a.add j) = some (.int .i64 (l.getD j 0)) := fun j hj => by
        obtain ⟨ad, e, hc⟩ := Kd.at_int h (j : Int) (by omega) (by omega)
        injection e with e
        subst e
        simpa [rd] using hc
      have hsp : a.spot = none := by
        have h0 := hat 0 hp
        simp only [Addr.add, if_true] at h0
        cases hs : a.spot with
        | none => rfl
        | some q =>
          exfalso
          unfold World.cell? at h0
          split at h0
          · simp [hs] at h0
          · simp at h0
      obtain ⟨b, off, sp⟩ := a
      simp only at hsp
      subst hsp
      refine (Try.slices_Clone_int b off l.length c l w (Nat.le_refl _) hs (fun j hj => ?_)).mono fun e w' ⟨v, he, ho, _, hb⟩ => ?_
      · have := hat j hj
        simp only [Addr.add] at this
        split at this
        · rename_i h0
          subst h0
          exact this
        · exact this
      · rw [List.take_length] at ho
        exact ⟨v, he, Kd.R_of_own ho (fun _ _ => trivial), hb⟩

/-- What minors.made answers. -/
def Ext.made.f (a0 : Int) (l1 : List Int) : Option (Int × List Int) := if l1.length ≤ 1000000 then some (a0, Lib.compact (sorted l1)) else none

set_option maxHeartbeats 2000000 in
theorem Ext.made.calls (a0 : Int) (P1_ : Nat → Prop) (u9000_ : Value) (l1 : List Int) (r1 : Int) (r2 : List Int) (w0 w : World) (hB : Below w0.heap.size w0 w) (ho1 : Kd.R (Kd.int .i64) 3 w w0.heap.size P1_ u9000_ l1) (h : Ext.made.f a0 l1 = some (r1, r2)) :
    Calls Try.prog 32 #[.int .i64 a0, u9000_] w fun e w' => ∃ v1_ : Value, e = .returned (.agg #[.int .i64 r1, v1_]) ∧ Kd.R (Kd.int .i64) 3 w' w0.heap.size (fun k_ => (P1_ k_ ∨ w.heap.size ≤ k_)) v1_ r2 ∧ Below w0.heap.size w0 w' ∧ Kept w w' (fun k_ => P1_ k_) := by
  unfold Ext.made.f at h
  by_cases hl : l1.length ≤ 1000000
  · rw [if_pos hl] at h
    simp only [Option.some.injEq, Prod.mk.injEq] at h
    obtain ⟨rfl, rfl⟩ := h
    obtain ⟨A, c, rfl⟩ := Kd.R_slice ho1
    have HL := Aside0.mk hl
    have HB0 := Aside0.mk hB
    have HO := Aside0.mk ho1
    clear hl hB ho1
    go_enter Try.func32, Try.ntmps32
    go_wp2_with (first
      | ((with_reducible refine gate_dst (N := 4) rfl ?_); refine box_event ?hg (N := 4) ?hd (cs := #[.int .i64 0, .slice none 0 0]) (t := 33) ?hr ?_; (case hd => rfl); (case hg => rfl); (case hr => first | (go_simp; done) | (go_simp; rfl)); intro g4 hg4 w1 hbox1 hb1; have B1 := Aside0.mk hbox1; have G1 := Aside0.mk hg4; have HW1 := Aside0.mk hb1; clear hbox1 hg4 hb1)
      | (go_at_call 40; (with_reducible refine (sort_calls (Kd.R_below HO.out HW1.out) (by have := HL.out; omega)).mono ?_); rintro e w2 ⟨rfl, hr2, hg2⟩; have HO2 := Aside0.mk hr2; have B2 := Aside0.mk (blk_grown B1.out hg2 (Kd.R_ne (Kd.R_below HO.out HW1.out) B1.out (by decide))); have HB2 := Aside0.mk (pw_below_grown (below_then HB0.out HB0.out.size HW1.out) _ (Nat.le_trans HB0.out.size HW1.out.size) hg2 (Kd.R_base HO.out)); have HK2 := Aside0.mk (Kept.of_grown hg2 (Kept.of_below HW1.out (fun k_ => P1_ k_)) (fun k hk => .inl (HO.out.1 k hk))); clear hr2 hg2)
      | (go_at_call 64; (with_reducible refine (compact_calls HO2.out (by rw [sorted_length]; have := HL.out; omega)).mono ?_); rintro e w3 ⟨rfl, hr3, hg3⟩; have HO3 := Aside0.mk hr3; have B3 := Aside0.mk (blk_grown B2.out hg3 (Kd.R_ne HO2.out B2.out (by decide))); have HB3 := Aside0.mk (pw_below_grown HB2.out _ HB2.out.size hg3 (Kd.R_base HO2.out)); have HK3 := Aside0.mk (Kept.of_grown hg3 HK2.out (fun k hk => .inl (HO2.out.1 k hk))); clear hr3 hg3)
      | (go_at_call 36; (with_reducible refine (clone_calls (Kd.R_reads' HO3.out).2.2 (by have h1 := compact_le (sorted l1); rw [sorted_length] at h1; have := HL.out; omega)).mono ?_); rintro e w4 ⟨v, rfl, hr4, hb4⟩; obtain ⟨Av, cv, ev⟩ := Kd.R_slice hr4; subst ev; have HO4 := Aside0.mk hr4; have B4 := Aside0.mk (blk_below B3.out hb4); have HB4 := Aside0.mk (below_then HB3.out HB3.out.size hb4); have HK4 := Aside0.mk (Kept.below HK3.out hb4); clear hr4 hb4; have hd0 : w4.cell? ⟨g4, 0, none⟩ = some (.int .i64 0) := (blk_cell B4.out 0).trans rfl; have hd1 : w4.cell? ⟨g4, 1, none⟩ = some (.slice none 0 0) := (blk_cell B4.out 1).trans rfl; have hf0 := blk_frozen B4.out 0; have hf1 := blk_frozen B4.out 1))
    have hw3 : w.heap.size ≤ w3.heap.size := HK3.out.1
    have hg4 : w.heap.size ≤ g4 := by rw [G1.out]; exact Nat.le_refl _
    have hw0 : w0.heap.size ≤ w.heap.size := HB0.out.size
    refine bodyPost_ret (results_cell_row rfl _ _ g4 33 #[.int .i64 a0, .slice Av (Lib.compact (sorted l1)).length cv] (0, 0) _ rfl (blk_put (blk_put B4.out 0 _ rfl) 1 _ rfl) Try.underlying33 rfl (by kernel_rfl)) rfl ?_
    have hR := Kd.R_mono (ok' := fun k_ => P1_ k_ ∨ w.heap.size ≤ k_) (Kd.R_bound HO4.out) (fun k hk => .inr (Nat.le_trans hw3 hk.2.1))
    exact ⟨_, rfl, Kd.R_set (Kd.R_set (Kd.R_lower hR (Nat.le_trans hw0 hw3)) B4.out (by decide) 0 _) (blk_put B4.out 0 _ rfl) (by decide) 1 _,
      below_set (below_set HB4.out (by omega)) (by omega), Kept.setCell (Kept.setCell HK4.out (.inr hg4) _) (.inr hg4) _⟩
  · rw [if_neg hl] at h
    exact absurd h (by simp)

end Go.Proofs.Ytkppdmlellmepaa
