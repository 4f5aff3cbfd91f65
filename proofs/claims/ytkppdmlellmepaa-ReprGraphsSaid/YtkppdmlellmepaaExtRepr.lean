/-
  repr.Represent at the matroid of one element, which is its basis: the matrix of one row, 1. The one call that the law of graphs makes.
-/
import Derived.Test.YtkppdmlellmepaaPAx4
namespace Go.Proofs.Ytkppdmlellmepaa
open Go.RowKit Go.Proofs.YtkppdmlellmepaaW.PrintWords Go.Proofs.YtkppdmlellmepaaW.PrintLast Go.Proofs.YtkppdmlellmepaaW.PrintMore
open PA

set_option maxHeartbeats 800000 in
/-- where no element is left the search is done. -/
theorem from_calls (g9 : Nat) (cs : Array Value) (c done : Int) (w : World) (hb : w.heap[g9]? = some (.cells cs 64 (0, 0))) (hc : cs[7]? = some (.slice none 0 0)) (hd : c = 0) :
    Calls Try.prog 27 #[.pointer (some ⟨g9, 0, none⟩), .int .i64 c, .int .i64 0, .int .i64 done] w fun e w' => e = .returned (.bool true) ∧ Below w.heap.size w w' := by
  subst hd
  have h7 : w.cell? ⟨g9, 7, none⟩ = some (.slice none 0 0) := (blk_cell hb 7).trans hc
  clear hb hc
  go_enter Try.func27, Try.ntmps27
  go_wp2
  go_ret
  exact ⟨rfl, Below.refl _ _⟩

/-- what stands in memory while the first basis is gone through. -/
structure RInv (w : World) (g2 g4 g9 : Nat) (A : Option Addr) (c : Nat) (vr vR vs : Value) (R : List (List Int)) (W : World) : Prop where
  below : Below w.heap.size w W
  h4 : w.heap.size ≤ g4
  h9 : w.heap.size ≤ g9
  ne : g4 ≠ g9
  b2 : W.heap[g2]? = some (.cells #[.int .i64 1, .slice A 1 c] 33 (0, 0))
  b4 : W.heap[g4]? = some (.cells #[.int .i64 0, .int .i64 0, .slice none 0 0] 27 (0, 0))
  b9 : W.heap[g9]? = some (.cells #[.int .i64 1, .slice A 1 c, vr, .int .i64 2, .int .i64 1, vR, vs, .slice none 0 0] 64 (0, 0))
  row : Kd.S (Kd.slice 3 (Kd.int .i64)) 31 W w.heap.size (fun _ => True) vR R

theorem RInv.move {w : World} {g2 g4 g9 : Nat} {A : Option Addr} {c : Nat} {vr vs : Value} {W W1 : World} (h : RInv w g2 g4 g9 A c vr (.slice none 0 0) vs [] W)
    (hb : Below w.heap.size w W1) (hk : ∀ (g : Nat) (o : Array Value) (t : Nat), t ≠ 3 → W.heap[g]? = some (.cells o t (0, 0)) → W1.heap[g]? = some (.cells o t (0, 0))) : RInv w g2 g4 g9 A c vr (.slice none 0 0) vs [] W1 :=
  ⟨hb, h.h4, h.h9, h.ne, hk _ _ _ (by decide) h.b2, hk _ _ _ (by decide) h.b4, hk _ _ _ (by decide) h.b9, Kd.S_nil _ _ _ _ _⟩

theorem RInv.rows {w : World} {g2 g4 g9 : Nat} {A : Option Addr} {c : Nat} {vr vs vs' : Value} {W : World} (h : RInv w g2 g4 g9 A c vr (.slice none 0 0) vs [] W) (hn : g2 ≠ g9) :
    RInv w g2 g4 g9 A c vr (.slice none 0 0) vs' [] (W.setCell ⟨g9, 6, none⟩ vs') :=
  ⟨below_set h.below h.h9, h.h4, h.h9, h.ne, blk_far h.b2 hn _, blk_far h.b4 h.ne _, blk_put h.b9 6 _ rfl, Kd.S_nil _ _ _ _ _⟩

def Ext.Represent.f (a0_0 : Int) (l0_1 : List Int) (p : Int) : Option (Int × Int × List (List Int) × Int) :=
  if a0_0 = 1 ∧ l0_1 = [1] ∧ p = 2 then some (2, 1, [[1]], 0) else none

set_option maxRecDepth 100000 in
set_option maxHeartbeats 2000000 in
theorem Ext.Represent.calls (a0_0 : Int) (A0_1 : Option Addr) (c0_1 : Nat) (l0_1 : List Int) (a1 : Int) (r1 r2 : Int) (r3 : List (List Int)) (r4 : Int) (w : World) (hr0_1 : Kd.C (Kd.int .i64) w A0_1 l0_1.length l0_1) (hc0_1 : l0_1.length ≤ c0_1) (h : Ext.Represent.f a0_0 l0_1 a1 = some (r1, r2, r3, r4)) :
    Calls Try.prog 6 #[.agg #[.int .i64 a0_0, .slice A0_1 l0_1.length c0_1], .int .i64 a1] w fun e w' => ∃ v2_ : Value, e = .returned (.tuple #[.agg #[.int .i64 r1, .int .i64 r2, v2_], .int .i64 r4]) ∧ Kd.S (Kd.slice 3 (Kd.int .i64)) 31 w' w.heap.size (fun _ => True) v2_ r3 ∧ Below w.heap.size w w' := by
  unfold Ext.Represent.f at h
  by_cases hh : a0_0 = 1 ∧ l0_1 = [1] ∧ a1 = 2
  · rw [if_pos hh] at h
    obtain ⟨rfl, rfl, rfl⟩ := hh
    simp only [Option.some.injEq, Prod.mk.injEq] at h
    obtain ⟨rfl, rfl, rfl, rfl⟩ := h
    have HR := Aside0.mk hr0_1
    have HC := Aside0.mk hc0_1
    obtain ⟨ad, eA, hx⟩ := Kd.at_int hr0_1 0 (by omega) (by simp)
    have hx' : w.cell? ad = some (.int .i64 1) := by simpa [Addr.add, rd] using hx
    have HX := Aside0.mk hx'
    subst eA
    clear hr0_1 hc0_1 hx hx'
    have HCk := Aside0.mk (show axioms_Check.f 20 1 [1] = some 0 by decide +kernel)
    have HRk := Aside0.mk (show axioms_Ranks.f 20 1 [1] = some ([0, 1], 0) by decide +kernel)
    go_enter Try.func6, Try.ntmps6
    go_upto_region 10 with (first
      | ((with_reducible refine gate_dst (N := 2) rfl ?_); refine box_event ?hg (N := 2) ?hd (cs := #[.int .i64 1, .slice (some ad) 1 c0_1]) (t := 33) ?hr ?_; (case hd => rfl); (case hg => rfl); (case hr => first | (go_simp; done) | (go_simp; rfl)); intro g2 hg2 w1 hbox1 hb1; have B2 := Aside0.mk hbox1; have G2 := Aside0.mk hg2; have HW1 := Aside0.mk hb1; clear hbox1 hg2 hb1)
      | ((with_reducible refine gate_dst (N := 4) rfl ?_); refine box_event ?hg (N := 4) ?hd (cs := #[.int .i64 0, .int .i64 0, .slice none 0 0]) (t := 27) ?hr ?_; (case hd => rfl); (case hg => rfl); (case hr => first | (go_simp; done) | (go_simp; rfl)); intro g4 hg4 w2 hbox2 hb2; have B4 := Aside0.mk hbox2; have G4 := Aside0.mk hg4; have HB2 := Aside0.mk (below_step HW1.out hb2); have B2' := Aside0.mk (blk_below B2.out hb2); have hc20 : w2.cell? ⟨g2, 0, none⟩ = some (.int .i64 1) := (blk_cell B2'.out 0).trans rfl; have hc21 : w2.cell? ⟨g2, 1, none⟩ = some (.slice (some ad) 1 c0_1) := (blk_cell B2'.out 1).trans rfl; clear B2 hbox2 hg4 hb2)
      | (go_at_call 25; (refine (axioms_Check.calls 20 1 (some ad) c0_1 [1] 0 _ (Kd.C_below HR.out HB2.out) HC.out HCk.out).mono ?_); rintro e w3 ⟨rfl, hb3⟩; have HB3 := Aside0.mk (below_step HB2.out hb3); have B2 := Aside0.mk (blk_below B2'.out hb3); have B4' := Aside0.mk (blk_below B4.out hb3); clear B4 B2' hc20 hc21 hb3; have hc20 : w3.cell? ⟨g2, 0, none⟩ = some (.int .i64 1) := (blk_cell B2.out 0).trans rfl; have hc21 : w3.cell? ⟨g2, 1, none⟩ = some (.slice (some ad) 1 c0_1) := (blk_cell B2.out 1).trans rfl)
      | (go_at_call 26; (refine (axioms_Ranks.calls 20 1 (some ad) c0_1 [1] [0, 1] 0 _ (Kd.C_below HR.out HB3.out) HC.out HRk.out).mono ?_); rintro e w4 ⟨vr, rfl, hr4, hb4⟩; obtain ⟨Ar, cr, er⟩ := Kd.R_slice hr4; subst er; obtain ⟨ar, eAr, hxr⟩ := Kd.at_int (Kd.R_reads' hr4).2.2 1 (by omega) (by simp); subst eAr; have hxq : w4.cell? ⟨ar.block, ar.off + 1, none⟩ = some (.int .i64 1) := (by simpa [Addr.add, rd] using hxr); clear hxr; have HB4 := Aside0.mk (below_step HB3.out hb4); have B2q := Aside0.mk (blk_below B2.out hb4); have B4q := Aside0.mk (blk_below B4'.out hb4); clear B4' B2 hc20 hc21 hb4 hr4; have hc20 : w4.cell? ⟨g2, 0, none⟩ = some (.int .i64 1) := (blk_cell B2q.out 0).trans rfl; have hc21 : w4.cell? ⟨g2, 1, none⟩ = some (.slice (some ad) 1 c0_1) := (blk_cell B2q.out 1).trans rfl)
      | ((with_reducible refine gate_dst (N := 45) rfl ?_); refine box_event ?hg (N := 45) ?hd (cs := #[.int .i64 1, .slice (some ad) 1 c0_1, .slice (some ar) 2 cr, .int .i64 2, .int .i64 1, .slice none 0 0, .slice none 0 0, .slice none 0 0]) (t := 64) ?hr ?_; (case hd => rfl); (case hg => rfl); (case hr => first | (go_simp; done) | (go_simp; rfl)); intro g9 hg9 w5 hbox5 hb5; have B9 := Aside0.mk hbox5; have G9 := Aside0.mk hg9; have HB5 := Aside0.mk (below_step HB4.out hb5); have B25 := Aside0.mk (blk_below B2q.out hb5); have B45 := Aside0.mk (blk_below B4q.out hb5); clear hbox5 hg9 hb5 hc20 hc21))
    have R0 : RInv w g2 g4 g9 (some ad) c0_1 (.slice (some ar) 2 cr) (.slice none 0 0) (.slice none 0 0) [] w5 := by
      have e2 := G2.out
      have e4 := G4.out
      have e9 := G9.out
      have s1 := HW1.out.size
      have s2 := HB4.out.size
      have l4 := blk_lt B4q.out
      exact ⟨HB5.out, by omega, by omega, by omega, B25.out, B45.out, B9.out, Kd.S_nil _ _ _ _ _⟩
    have RI := Aside0.mk R0
    clear R0 G2 G4 G9 HW1 HB2 HB3 HB4 HB5 B2q B4q B9 B25 B45 hxq HCk HRk
    have hc20 : w5.cell? ⟨g2, 0, none⟩ = some (.int .i64 1) := (blk_cell RI.out.b2 0).trans rfl
    go_wp2
    go_loopg [48] 1 (fun kq v48 w' => ∃ (vR vs : Value) (R : List (List Int)), ((v48 = .int .i64 0 ∧ kq = 1 ∧ vR = .slice none 0 0 ∧ vs = .slice none 0 0 ∧ R = []) ∨ (v48 = .int .i64 1 ∧ kq = 0 ∧ R = [[1]])) ∧ Aside0 (RInv w g2 g4 g9 (some ad) c0_1 (.slice (some ar) 2 cr) vR vs R w'))
    case atStart => exact ⟨_, _, _, .inl ⟨rfl, rfl, rfl, rfl, rfl⟩, RI⟩
    case round =>
      clear RI hc20
      obtain ⟨vR, vs, R, hcase, RI⟩ := hrel
      have hx0 : wr.cell? ad = some (.int .i64 1) := (RI.out.below.cell (World.block_lt_of_cell? w _ HX.out)).trans HX.out
      have hc20 : wr.cell? ⟨g2, 0, none⟩ = some (.int .i64 1) := (blk_cell RI.out.b2 0).trans rfl
      have hc21 : wr.cell? ⟨g2, 1, none⟩ = some (.slice (some ad) 1 c0_1) := (blk_cell RI.out.b2 1).trans rfl
      rcases hcase with ⟨rfl, rfl, rfl, rfl, rfl⟩ | ⟨rfl, rfl, rfl⟩
      · go_upto_region 16 with (first
          | ((with_reducible refine gate_dst (N := 71) rfl ?_); refine Kd.R_make (Kd.int .i64) _ 3 rfl (N := 71) rfl 31 _ _ rfl 1 rfl rfl Try.underlying31 (.int .i64 0) 8 info3 rfl (by decide) (by omega) 0 (ok := fun _ => True) (okp := fun _ => True) rfl (fun _ hk => hk) trivial (by omega) (by decide) (Below.refl _ _) (Nat.le_refl _) ?_; intro v71 w6 ho hb6 hg6 hnew6; have HU := Aside0.mk ho; have HW6 := Aside0.mk hb6; clear ho hb6 hg6 hnew6))
        have HU1 : Kd.R (Kd.int .i64) 3 w6 wr.heap.size (fun _ => True) v71 [0] := HU.out
        obtain ⟨gu, cu, hvu, hbu, hlu, cellsu, hhu⟩ := Kd.R_form HU1 (by simp)
        simp only [List.length_singleton] at hvu
        subst hvu
        have hxu : w6.cell? ⟨gu, 0, none⟩ = some (.int .i64 0) := (Kd.R_celln 0 HU1 0 (by omega) (by omega)).1
        have hfu : w6.frozen? ⟨gu, 0, none⟩ = false := (Kd.R_celln 0 HU1 0 (by omega) (by omega)).2
        have HP : Kd.R (Kd.int .i64) 3 (w6.setCell ⟨gu, 0, none⟩ (.int .i64 1)) wr.heap.size (fun _ => True) (.slice (some ⟨gu, 0, none⟩) 1 cu) [1] := Kd.R_putn HU1 0 1
        have hs := RI.out.below.size
        have n29 : g2 ≠ g9 := fun e => by have h1 := RI.out.b2; rw [e, RI.out.b9] at h1; simp at h1
        have RI7 : RInv w g2 g4 g9 (some ad) c0_1 (.slice (some ar) 2 cr) (.slice none 0 0) (.slice none 0 0) [] (w6.setCell ⟨gu, 0, none⟩ (.int .i64 1)) :=
          RI.out.move (below_set (below_step RI.out.below HW6.out) (by omega)) (fun g o t ht hg => blk_far (blk_below hg HW6.out) (fun e => by
            have h1 := blk_below hg HW6.out
            have e' : g = gu := e
            rw [e', hhu] at h1
            simp at h1
            exact ht h1.2.symm) _)
        have HPa := Aside0.mk HP
        have RI7a := Aside0.mk RI7
        have n29a := Aside0.mk n29
        have hsa := Aside0.mk hs
        clear HU HU1 hbu hlu hhu HP RI7 n29 hs hx0 hc20 hc21
        go_upto_region 17 with (fail)
        generalize w6.setCell ⟨gu, 0, none⟩ (.int .i64 1) = w7 at HPa RI7a ⊢
        clear hxu hfu
        have hc96 : w7.cell? ⟨g9, 6, none⟩ = some (.slice none 0 0) := (blk_cell RI7a.out.b9 6).trans rfl
        go_upto_region 18 with (first
          | ((with_reducible refine gate_builtin (b := .append) (xs := #[.tmp 79, .tmp 81]) rfl ?_); at_builtin; refine Kd.R_append (Kd.int .i64) (w0 := w) w.heap.size rfl (.tmp 79) (.tmp 81) 31 3 (.int .i64 0) 8 rfl Try.underlying31 info3 rfl (by decide) (by omega) (.slice none 0 0) [] 0 [.int .i64 0] (fun _ => True) (fun _ => False) rfl rfl ?aP (fun _ hk => hk.elim) ?aF ?aO ?aB ?aS ?aL ?_; (case aP => exact rfl); (case aF => exact (fun _ _ => trivial)); (case aO => exact Kd.R_nil _ _ _ _ _); (case aB => exact RI7a.out.below); (case aS => exact RI7a.out.below.size); (case aL => simp); intro v1 w8 ho hb hg hat; have HP8 := Aside0.mk (Kd.R_grown (Kd.R_mono HPa.out (fun _ h => h)) hg (fun k _ => by simp [Value.ownBlock])); have RI8 := Aside0.mk (RI7a.out.move hb (fun g o t _ hg' => blk_grown hg' hg (by simp [Value.ownBlock]))); obtain ⟨As, cs, es⟩ := Kd.R_slice ho; subst es; clear ho hb hg hat hc96; have hc96 : w8.cell? ⟨g9, 6, none⟩ = some (.slice none 0 0) := (blk_cell RI8.out.b9 6).trans rfl; have hf96 := blk_frozen RI8.out.b9 6))
        have HP9 := Kd.R_set HP8.out RI8.out.b9 (by decide) 6 (.slice As 1 cs)
        have RI9 := RI8.out.rows (vs' := .slice As 1 cs) n29a.out
        generalize w8.setCell ⟨g9, 6, none⟩ (.slice As 1 cs) = w9 at HP9 RI9 ⊢
        have HQ9 := Aside0.mk (Kd.R_lower HP9 hsa.out)
        have RI9a := Aside0.mk RI9
        clear HP9 RI9 HP8 RI8 HPa RI7a hc96 hf96
        have hc95 : w9.cell? ⟨g9, 5, none⟩ = some (.slice none 0 0) := (blk_cell RI9a.out.b9 5).trans rfl
        go_upto_region 19 with (first
          | ((with_reducible refine gate_builtin (b := .append) (xs := #[.tmp 90, .tmp 92]) rfl ?_); at_builtin; refine Kd.S_append (Kd.slice 3 (Kd.int .i64)) (w0 := w) w.heap.size rfl (.tmp 90) (.tmp 92) 25 31 (.slice none 0 0) 24 rfl Try.underlying25 info31 rfl (by decide) (by omega) (.slice none 0 0) [] [1] [.slice (some ⟨gu, 0, none⟩) 1 cu] (fun _ => True) (fun _ => True) rfl rfl ?aP (fun _ _ => ⟨trivial, by simp [Value.ownBlock]⟩) (fun _ _ => trivial) ?aO ?aB ?aS ?aL ?_; (case aP => exact ⟨_, rfl, HQ9.out⟩); (case aO => exact Kd.S_nil _ _ _ _ _); (case aB => exact RI9a.out.below); (case aS => exact RI9a.out.below.size); (case aL => simp); intro v1 w10 ho hb hg hat; obtain ⟨An, cn, en⟩ := Kd.S_slice ho; subst en; have HS10 := Aside0.mk ho; have RI10 := Aside0.mk (RI9a.out.move hb (fun g o t _ hg' => blk_grown hg' hg (by simp [Value.ownBlock]))); clear ho hb hg hat hc95; have hc95 : w10.cell? ⟨g9, 5, none⟩ = some (.slice none 0 0) := (blk_cell RI10.out.b9 5).trans rfl; have hf95 := blk_frozen RI10.out.b9 5))
        have HS11 := Kd.S_set HS10.out RI10.out.b9 (by decide) 5 (.slice An 1 cn)
        have RI11 : RInv w g2 g4 g9 (some ad) c0_1 (.slice (some ar) 2 cr) (.slice An 1 cn) (.slice As 1 cs) [[1]] (w10.setCell ⟨g9, 5, none⟩ (.slice An 1 cn)) :=
          ⟨below_set RI10.out.below RI10.out.h9, RI10.out.h4, RI10.out.h9, RI10.out.ne, blk_far RI10.out.b2 n29a.out _, blk_far RI10.out.b4 RI10.out.ne _, blk_put RI10.out.b9 5 _ rfl, HS11⟩
        generalize w10.setCell ⟨g9, 5, none⟩ (.slice An 1 cn) = w11 at HS11 RI11 ⊢
        have RI11a := Aside0.mk RI11
        clear HS11 RI11 HS10 RI10 RI9a HQ9 hc95 hf95
        go_wp2
        go_roundg 0
        case measure => omega
        case rel => exact ⟨_, _, _, .inr ⟨rfl, rfl, rfl⟩, RI11a⟩
      · obtain ⟨AR, cR, eR⟩ := Kd.S_slice RI.out.row
        subst eR
        go_upto_region 22 with (first
          | (go_at_call 27; (refine (from_calls g9 _ 0 1 _ RI.out.b9 rfl rfl).mono ?_); rintro e w12 ⟨rfl, hb12⟩))
        have b9 := blk_below RI.out.b9 hb12
        have b4 := blk_below RI.out.b4 hb12
        have HS12 := Aside0.mk (Kd.S_below RI.out.row hb12)
        have HW12 := Aside0.mk (below_step RI.out.below hb12)
        have HB9 := Aside0.mk b9
        have HB4 := Aside0.mk b4
        have hc93 : w12.cell? ⟨g9, 3, none⟩ = some (.int .i64 2) := (blk_cell b9 3).trans rfl
        have hc94 : w12.cell? ⟨g9, 4, none⟩ = some (.int .i64 1) := (blk_cell b9 4).trans rfl
        have hc95 : w12.cell? ⟨g9, 5, none⟩ = some (.slice AR 1 cR) := (blk_cell b9 5).trans rfl
        have hc40 : w12.cell? ⟨g4, 0, none⟩ = some (.int .i64 0) := (blk_cell b4 0).trans rfl
        have hc41 : w12.cell? ⟨g4, 1, none⟩ = some (.int .i64 0) := (blk_cell b4 1).trans rfl
        have hc42 : w12.cell? ⟨g4, 2, none⟩ = some (.slice none 0 0) := (blk_cell b4 2).trans rfl
        have hf40 := blk_frozen b4 0
        have hf41 := blk_frozen b4 1
        have hf42 := blk_frozen b4 2
        have hg4 := RI.out.h4
        have HG4 := Aside0.mk hg4
        clear hb12 b9 b4 hx0 hc20 hc21 hg4
        go_wp2
        refine bodyPost_ret (results_ct rfl _ _ g4 27 #[.int .i64 2, .int .i64 1, (.slice AR 1 cR)] (0, 0) _ rfl (blk_put (blk_put (blk_put HB4.out 0 _ rfl) 1 _ rfl) 2 _ rfl) Try.underlying27 rfl (by kernel_rfl)) rfl ?_
        refine ⟨(.slice AR 1 cR), rfl, Kd.S_set (Kd.S_set (Kd.S_set HS12.out HB4.out (by decide) 0 _) (blk_put HB4.out 0 _ rfl) (by decide) 1 _) (blk_put (blk_put HB4.out 0 _ rfl) 1 _ rfl) (by decide) 2 _, below_set (below_set (below_set HW12.out HG4.out) HG4.out) HG4.out⟩
  · rw [if_neg hh] at h
    exact absurd h (by simp)

end Go.Proofs.Ytkppdmlellmepaa
