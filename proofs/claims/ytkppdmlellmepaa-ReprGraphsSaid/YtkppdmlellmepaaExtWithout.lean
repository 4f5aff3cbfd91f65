/-
  kinds.without: all sets of so many elements but some.
-/
import Derived.Test.YtkppdmlellmepaaExtMade
import Derived.Test.YtkppdmlellmepaaShlf
import Derived.Test.YtkppdmlellmepaaPAx5
namespace Go.Proofs.Ytkppdmlellmepaa
open Go.RowKit Go.Proofs.YtkppdmlellmepaaW.PrintWords Go.Proofs.YtkppdmlellmepaaW.PrintLast Go.Proofs.YtkppdmlellmepaaW.PrintMore
open PA

/-- a list that is read, at a plain address. -/
theorem reads_at {w : World} {a : Addr} {l : List Int} (h : Kd.C (Kd.int .i64) w (some a) l.length l) (hp : 0 < l.length) :
    a.spot = none ∧ ∀ j, j < l.length → w.cell? ⟨a.block, a.off + j, none⟩ = some (.int .i64 (l.getD j 0)) := by
  have hat : ∀ j, j < l.length → w.cell? (a.add j) = some (.int .i64 (l.getD j 0)) := fun j hj => by
    obtain ⟨ad, e, hc⟩ := Kd.at_int h (j : Int) (by omega) (by omega)
    injection e with e
    subst e
    simpa [rd] using hc
  have hsp : a.spot = none := by
    have h0 := hat 0 hp
    simp only [Addr.add, if_true] at h0
    cases hs : a.spot with
    | none => rfl
    | some q =>
      exfalso
      unfold World.cell? at h0
      split at h0
      · simp [hs] at h0
      · simp at h0
  refine ⟨hsp, fun j hj => ?_⟩
  have := hat j hj
  simp only [Addr.add] at this
  split at this
  · rename_i h0
    subst h0
    obtain ⟨b, off, sp⟩ := a
    simp only at hsp
    subst hsp
    exact this
  · exact this

/-- slices.Contains. -/
theorem contains_calls {A : Option Addr} {c : Nat} {l : List Int} {w : World} (x : Int) (h : Kd.C (Kd.int .i64) w A l.length l) (hs : l.length ≤ 9223372036854775807) :
    Calls Try.prog 62 #[.slice A l.length c, .int .i64 x] w fun e w' => e = .returned (.bool (l.contains x)) ∧ w' = w := by
  cases l with
  | nil => exact (Try.slices_Contains_int_empty A c x w).mono fun e w' ⟨he, hw⟩ => ⟨by rw [he]; rfl, hw⟩
  | cons y ys =>
    cases A with
    | none =>
      obtain ⟨ad, e, _⟩ := Kd.at_int h 0 (by omega) (by simp)
      cases e
    | some a =>
      obtain ⟨h1, h2⟩ := reads_at h (by simp)
      obtain ⟨b, off, sp⟩ := a
      simp only at h1
      subst h1
      refine (Try.slices_Contains_int b off (y :: ys).length c (y :: ys) x w (Nat.le_refl _) hs h2).mono fun e w' ⟨he, hw⟩ => ?_
      rw [List.take_length] at he
      exact ⟨he, hw⟩

/-- the closure of kinds.without. -/
theorem without1_calls {gb : Nat} {A : Option Addr} {c : Nat} {gone : List Int} {w : World} (x : Int) (hb : w.heap[gb]? = some (.cells #[.slice A gone.length c] 31 (0, 0))) (h : Kd.C (Kd.int .i64) w A gone.length gone) (hs : gone.length ≤ 9223372036854775807) :
    Calls Try.prog 85 #[.int .i64 x, .pointer (some ⟨gb, 0, none⟩)] w fun e w' => e = .returned (.bool (gone.contains x)) ∧ ∃ q, w' = w.drewN q := by
  have HR := Aside0.mk h
  have HS := Aside0.mk hs
  have hc0 : w.cell? ⟨gb, 0, none⟩ = some (.slice A gone.length c) := (blk_cell hb 0).trans rfl
  clear h hs hb
  go_enter Try.func85, Try.ntmps85
  go_wp2_with (go_at_call 62; (with_reducible refine (contains_calls x HR.out HS.out).mono ?_); rintro e w' ⟨rfl, rfl⟩)
  go_ret
  exact ⟨by simp, 0, rfl⟩

open Go.Sort Go.Lib in
/-- slices.DeleteFunc of a row of the caller's own, with that closure. -/
theorem delete_calls {w0 : World} {ok : Nat → Prop} {A : Option Addr} {n c : Nat} {l : List Int} {w : World} {gb : Nat} {B : Option Addr} {cg : Nat} {gone : List Int}
    (h : Kd.R (Kd.int .i64) 3 w w0.heap.size ok (.slice A n c) l) (hs : l.length < 4611686018427387904)
    (hb : w.heap[gb]? = some (.cells #[.slice B gone.length cg] 31 (0, 0))) (hB : Below w0.heap.size w0 w) (hg : Kd.C (Kd.int .i64) w0 B gone.length gone) (hgs : gone.length ≤ 9223372036854775807) (hp : 0 < l.length) :
    Calls Try.prog 84 #[.slice A n c, .func (.func 85) #[] #[.pointer (some ⟨gb, 0, none⟩)]] w fun e w' =>
      e = .returned (.slice A (l.filter fun x => !gone.contains x).length c) ∧ Kd.R (Kd.int .i64) 3 w' w0.heap.size ok (.slice A (l.filter fun x => !gone.contains x).length c) (l.filter fun x => !gone.contains x) ∧ w.grownBy w' (Value.slice A n c).ownBlock := by
  obtain rfl := (Kd.R_reads' h).1
  have ho := Kd.own_of_R h
  have hne : some gb ≠ (Value.slice A l.length c).ownBlock := Kd.R_ne h hb (by decide)
  rcases ho.2 with ⟨_, h0⟩ | ⟨g, cap, cur, hv, hbs, hh, h1, h2, h3, h4⟩
  · omega
  · injection hv with e1 e2 e3
    subst e1 e3
    have hH := holds_of_blockI (ss := l) hh (by simpa [encs] using h4)
    have hgb := blk_lt hb
    have hgg : gb ≠ g := fun e => hne (by simp [Value.ownBlock, e])
    have eg : ∀ args w, (callFunc 85 args).run Try.prog w = .ok (.enter 85 args) w := enters_of Try.func85 (by kernel_rfl) rfl
    have P1 : PredAt Try.prog 85 #[.pointer (some ⟨gb, 0, none⟩)] (Value.int .i64) (fun x => gone.contains x) w := fun W x hbe =>
      without1_calls x (blk_below hb hbe) (Kd.C_below hg (below_step hB hbe)) hgs
    have P2 : PredOver Try.prog 85 #[.pointer (some ⟨gb, 0, none⟩)] (Value.int .i64) (fun x => gone.contains x) g 0 l.toArray.size w := fun q os dk x _ => by
      have hgr := grownBy_sortedI (w := w) (g := g) (n := q) (os := os) dk
      exact without1_calls x (blk_grown hb hgr (fun e => hgg (Option.some.inj e))) (Kd.C_below hg (pw_below_grown hB _ hB.size hgr (fun k hk => by cases hk; exact hbs))) hgs
    refine (AnyE.slices_DeleteFunc Try.lDel (Value.int .i64) (fun _ => rfl) (fun x => gone.contains x) 85 #[.pointer (some ⟨gb, 0, none⟩)] eg 0 Try.zeroValue3 g 0 c l.toArray w P1 P2 hH (by simp; omega) (by simpa using h1)).mono fun e w' ⟨he, q, hw⟩ => ?_
    simp only [List.size_toArray] at he hw
    subst hw
    have hle : (l.filter fun x => !gone.contains x).length ≤ l.length := List.length_filter_le _ _
    have hts : ((l.filter fun x => !gone.contains x) ++ List.replicate (l.length - (l.filter fun x => !gone.contains x).length) 0).length = l.length := by simp only [List.length_append, List.length_replicate]; omega
    have hown := ownsRow_sortedI (n := q) (os := #[]) (ss := l) (ts := (l.filter fun x => !gone.contains x) ++ List.replicate (l.length - (l.filter fun x => !gone.contains x).length) 0) hts hbs hh h1 h2 h3
    have hgr := grownBy_sortedI (w := w) (g := g) (n := q) (os := #[]) ((l.filter fun x => !gone.contains x) ++ List.replicate (l.length - (l.filter fun x => !gone.contains x).length) 0).toArray
    rw [Sort.grow_empty] at hown hgr
    have hR : Kd.R (Kd.int .i64) 3 _ w0.heap.size ok (.slice (some ⟨g, 0, none⟩) l.length c) ((l.filter fun x => !gone.contains x) ++ List.replicate (l.length - (l.filter fun x => !gone.contains x).length) 0) := Kd.R_of_own (by rw [hts]; exact hown) (fun k hk => h.1 k hk)
    have hT := Kd.R_take (m := (l.filter fun x => !gone.contains x).length) hR (by simp)
    rw [List.take_left' rfl] at hT
    exact ⟨he, hT, hgr⟩

/-- What kinds.without answers: where there are such sets. -/
def Ext.without.f (a0 a1 : Int) (l2 : List Int) : Option (Int × List Int) :=
  (sets_Choose.f 1000 a1 a0).bind fun t => if 0 < t.1.length ∧ t.1.length ≤ 1000000 ∧ l2.length ≤ 1000000 then some (a1, t.1.filter fun x => !l2.contains x) else none

set_option maxRecDepth 100000 in
set_option maxHeartbeats 2000000 in
theorem Ext.without.calls (a0 : Int) (a1 : Int) (A2 : Option Addr) (c2 : Nat) (l2 : List Int) (r1 : Int) (r2 : List Int) (w : World) (hr2 : Kd.C (Kd.int .i64) w A2 l2.length l2) (_hc2 : l2.length ≤ c2) (h : Ext.without.f a0 a1 l2 = some (r1, r2)) :
    Calls Try.prog 65 #[.int .i64 a0, .int .i64 a1, .slice A2 l2.length c2] w fun e w' => ∃ v1_ : Value, e = .returned (.agg #[.int .i64 r1, v1_]) ∧ Kd.R (Kd.int .i64) 3 w' w.heap.size (fun _ => True) v1_ r2 ∧ Below w.heap.size w w' := by
  unfold Ext.without.f at h
  obtain ⟨⟨l, e⟩, A1, H⟩ := Option.bind_eq_some_iff.mp h
  clear h
  by_cases hl : 0 < l.length ∧ l.length ≤ 1000000 ∧ l2.length ≤ 1000000
  · rw [if_pos hl] at H
    simp only [Option.some.injEq, Prod.mk.injEq] at H
    obtain ⟨rfl, rfl⟩ := H
    have HC := Aside0.mk A1
    have HL := Aside0.mk hl
    have HR := Aside0.mk hr2
    clear A1 hl hr2
    obtain ⟨y, hy⟩ : ∃ y, (l.filter fun x => !l2.contains x) = y := ⟨_, rfl⟩
    have hyl : y.length ≤ l.length := by rw [← hy]; exact List.length_filter_le _ _
    rw [hy]
    have HY := Aside0.mk hy
    have HYL := Aside0.mk hyl
    clear hy hyl
    go_enter Try.func65, Try.ntmps65
    go_wp2_with (first
      | ((with_reducible refine gate_dst (N := 5) rfl ?_); refine box_event ?hg (N := 5) ?hd (cs := #[.slice A2 l2.length c2]) (t := 31) ?hr ?_; (case hd => rfl); (case hg => rfl); (case hr => first | (go_simp; done) | (go_simp; rfl)); intro g5 hg5 w1 hbox1 hb1; have B5 := Aside0.mk hbox1; have G5 := Aside0.mk hg5; have HW1 := Aside0.mk hb1; clear hbox1 hg5 hb1)
      | ((with_reducible refine gate_dst (N := 6) rfl ?_); refine box_event ?hg (N := 6) ?hd (cs := #[.int .i64 0, .slice none 0 0]) (t := 33) ?hr ?_; (case hd => rfl); (case hg => rfl); (case hr => first | (go_simp; done) | (go_simp; rfl)); intro g6 hg6 w2 hbox2 hb2; have B6 := Aside0.mk hbox2; have G6 := Aside0.mk hg6; have HB2 := Aside0.mk (below_step HW1.out hb2); have B5' := Aside0.mk (blk_below B5.out hb2); clear B5 hbox2 hg6 hb2)
      | (go_at_call 83; (with_reducible refine (sets_Choose.calls 1000 a1 a0 l e _ HC.out).mono ?_); rintro e' w3 ⟨v, rfl, hr3, hb3⟩; obtain ⟨Av, cv, ev⟩ := Kd.R_slice hr3; subst ev; have HO3 := Aside0.mk (Kd.R_lower hr3 HB2.out.size); have B5 := Aside0.mk (blk_below B5'.out hb3); have B6' := Aside0.mk (blk_below B6.out hb3); have HB3 := Aside0.mk (below_step HB2.out hb3); clear B6 B5' hr3 hb3)
      | (go_at_call 84; (with_reducible refine (delete_calls (w0 := w) HO3.out (by have := HL.out.2.1; omega) B5.out HB3.out HR.out (by have := HL.out.2.2; omega) HL.out.1).mono ?_); rintro e' w4 ⟨he4, hr4, hg4⟩; rw [HY.out] at he4 hr4; subst he4; have B7 := Aside0.mk (blk_grown B6'.out hg4 (Kd.R_ne HO3.out B6'.out (by decide))); have HB4 := Aside0.mk (pw_below_grown HB3.out _ HB3.out.size hg4 (Kd.R_base HO3.out)); have HO4 := Aside0.mk hr4; clear hr4 hg4)
      | (go_at_call 36; (with_reducible refine (clone_calls (Kd.R_reads' HO4.out).2.2 (by have := HYL.out; have := HL.out.2.1; omega)).mono ?_); rintro e' w5 ⟨v, rfl, hr5, hb5⟩; obtain ⟨Aw, cw, ew⟩ := Kd.R_slice hr5; subst ew; have HO5 := Aside0.mk (Kd.R_lower hr5 HB4.out.size); have B8 := Aside0.mk (blk_below B7.out hb5); have HB5 := Aside0.mk (below_step HB4.out hb5); clear hr5 hb5; have hd0 : w5.cell? ⟨g6, 0, none⟩ = some (.int .i64 0) := (blk_cell B8.out 0).trans rfl; have hd1 : w5.cell? ⟨g6, 1, none⟩ = some (.slice none 0 0) := (blk_cell B8.out 1).trans rfl; have hf0 := blk_frozen B8.out 0; have hf1 := blk_frozen B8.out 1))
    have hg6 : w.heap.size ≤ g6 := by have := G6.out; have := HW1.out.size; omega
    refine bodyPost_ret (results_cell_row rfl _ _ g6 33 #[.int .i64 a1, .slice Aw y.length cw] (0, 0) _ rfl (blk_put (blk_put B8.out 0 _ rfl) 1 _ rfl) Try.underlying33 rfl (by kernel_rfl)) rfl ?_
    exact ⟨_, rfl, Kd.R_set (Kd.R_set HO5.out B8.out (by decide) 0 _) (blk_put B8.out 0 _ rfl) (by decide) 1 _, below_set (below_set HB5.out hg6) hg6⟩
  · rw [if_neg hl] at H
    exact absurd H (by simp)

end Go.Proofs.Ytkppdmlellmepaa
