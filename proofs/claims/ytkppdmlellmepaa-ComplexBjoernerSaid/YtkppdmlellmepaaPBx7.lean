/- Printed by the kit's printer, over contracts of this session's own (wip/tools/xprint.py). -/
import Derived.Test.YtkppdmlellmepaaPBx0
import Derived.Test.YtkppdmlellmepaaPBx1
import Derived.Test.YtkppdmlellmepaaPBx3
import Derived.Test.YtkppdmlellmepaaPBx5
import Derived.Test.YtkppdmlellmepaaPBx6
import Derived.Test.YtkppdmlellmepaaExtAct
import Derived.Test.YtkppdmlellmepaaExtLex
import Derived.Test.YtkppdmlellmepaaExtRestr
namespace Go.Proofs.Ytkppdmlellmepaa.PB
open Go.RowKit Go.Proofs.YtkppdmlellmepaaW.PrintWords Go.Proofs.YtkppdmlellmepaaW.PrintLast Go.Proofs.YtkppdmlellmepaaW.PrintMore
attribute [local go_sem] max2_int min2_int max_two min_two max_three min_three max_four min_four   -- for this text's walks alone
set_option linter.unusedVariables false
set_option linter.unusedSimpArgs false

/-! ### rotakeep_ComplexBjoerner: function 4 -/
mutual
def rotakeep_ComplexBjoerner.j0 : Nat → Bool → Int → List Int → Option (Bool)
  | 0, _, _, _ => none
  | k + 1, x37, x210000, x210001 => if x37 = true then (some false) else ((Ext.Lexical.f k x210000 x210001).bind fun bt222 => (if bt222.2 = 0 then ((complex_Shells.f k x210000 x210001 bt222.1).bind fun bt226 => ((Ext.Restriction.f k x210000 x210001 bt222.1).bind fun bt228 => ((complex_H.f k x210000 x210001).bind fun bt232 => ((tutte_Polynomial.f k x210000 x210001).bind fun bt236 => (if bt226.2 = 0 then (if bt228.2 = 0 then (if bt232.2 = 0 then (if bt236.2 = 0 then (if bt226.1 = true then (if (bt228.1.length : Int) = (bt222.1.length : Int) then (rotakeep_ComplexBjoerner.j1 k bt222.1 bt228.1 bt232.1 bt236.1 ((bt232.1.length : Int) != (bt236.1.length : Int)) x210000 x210001) else (rotakeep_ComplexBjoerner.j1 k bt222.1 bt228.1 bt232.1 bt236.1 true x210000 x210001)) else (rotakeep_ComplexBjoerner.j1 k bt222.1 bt228.1 bt232.1 bt236.1 true x210000 x210001)) else (rotakeep_ComplexBjoerner.j1 k bt222.1 bt228.1 bt232.1 bt236.1 true x210000 x210001)) else (rotakeep_ComplexBjoerner.j1 k bt222.1 bt228.1 bt232.1 bt236.1 true x210000 x210001)) else (rotakeep_ComplexBjoerner.j1 k bt222.1 bt228.1 bt232.1 bt236.1 true x210000 x210001)) else (rotakeep_ComplexBjoerner.j1 k bt222.1 bt228.1 bt232.1 bt236.1 true x210000 x210001)))))) else (some ((bt222.1.length : Int) == 0))))
def rotakeep_ComplexBjoerner.j1 : Nat → List Int → List Int → List Int → List (List Int) → Bool → Int → List Int → Option (Bool)
  | 0, _, _, _, _, _, _, _ => none
  | k + 1, x5, x9, x11, x13, x110, x210000, x210001 => if x110 = true then (some false) else (if 0 ≤ (x11.length : Int) then (if ((x11.length : Int) : Int).toNat ≤ 35184372088832 then (rotakeep_ComplexBjoerner.l0 k x9 x11 x13 (List.replicate ((x11.length : Int) : Int).toNat 0) x5 (x5.length : Int) 0 x210000 x210001) else (none)) else (none))
def rotakeep_ComplexBjoerner.l0 : Nat → List Int → List Int → List (List Int) → List Int → List Int → Int → Int → Int → List Int → Option (Bool)
  | 0, _, _, _, _, _, _, _, _, _ => none
  | k + 1, x9, x11, x13, x15, x114, x115, x116, x210000, x210001 => if x116 < x115 then (if 0 ≤ x116 then (if x116 < (x114.length : Int) then ((Ext.Activities.f k x210000 x210001 (rd x114 x116)).bind fun bt244 => (if bt244.2.2 = 0 then (if x116 < (x9.length : Int) then (if (rd x9 x116) = (Go.bits .andNot .i64 (rd x114 x116) bt244.1) then ((rotaref_Size.f k (rd x9 x116)).bind fun t249 => (if 0 ≤ t249 then (if t249 < (x15.length : Int) then (rotakeep_ComplexBjoerner.l0 k x9 x11 x13 (x15.set (t249 : Int).toNat (wrap64 ((rd x15 t249) + 1))) x114 x115 (wrap64 (x116 + 1)) x210000 x210001) else (none)) else (none))) else (some false)) else (none)) else (some false))) else (none)) else (none)) else ((rotalaw_Same_int.f k x15 x11).bind fun t252 => (if t252 = true then (rotakeep_ComplexBjoerner.l1 k x11 x13 (x13.length : Int) 0) else (some false)))
def rotakeep_ComplexBjoerner.l1 : Nat → List Int → List (List Int) → Int → Int → Option (Bool)
  | 0, _, _, _, _ => none
  | k + 1, x11, x13, x156, x157 => if x157 < x156 then (if 0 ≤ x157 then (if x157 < (x13.length : Int) then (rotakeep_ComplexBjoerner.l2 k x11 x13 x157 0 x156 x157 (rd_L3 x13 x157) ((rd_L3 x13 x157).length : Int) 0) else (none)) else (none)) else (some true)
def rotakeep_ComplexBjoerner.l2 : Nat → List Int → List (List Int) → Int → Int → Int → Int → List Int → Int → Int → Option (Bool)
  | 0, _, _, _, _, _, _, _, _, _ => none
  | k + 1, x11, x13, x21, x22, x156, x157, x163, x164, x165 => if x165 < x164 then (if 0 ≤ x165 then (if x165 < (x163.length : Int) then (rotakeep_ComplexBjoerner.l2 k x11 x13 x21 (wrap64 (x22 + (rd x163 x165))) x156 x157 x163 x164 (wrap64 (x165 + 1))) else (none)) else (none)) else (if 0 ≤ (wrap64 ((wrap64 ((x11.length : Int) - 1)) - x21)) then (if (wrap64 ((wrap64 ((x11.length : Int) - 1)) - x21)) < (x11.length : Int) then (if x22 = (rd x11 (wrap64 ((wrap64 ((x11.length : Int) - 1)) - x21))) then (rotakeep_ComplexBjoerner.l1 k x11 x13 x156 (wrap64 (x157 + 1))) else (some false)) else (none)) else (none))
end
def rotakeep_ComplexBjoerner.f (k : Nat) (a0_0 : Int) (l0_1 : List Int) : Option (Bool) := (rotakeep_two.f).bind fun bt210 => ((Ext.Lexical.f k bt210.1 bt210.2).bind fun bt214 => (if bt214.2 = 0 then ((rotalaw_Same_int.f k bt214.1 (([3, 5, 9, 6, 10, 12] : List Int))).bind fun t221 => (rotakeep_ComplexBjoerner.j0 k (!t221) a0_0 l0_1)) else (rotakeep_ComplexBjoerner.j0 k true a0_0 l0_1)))
theorem rotakeep_ComplexBjoerner.mono_l : ∀ k, (∀ y0 y1 y2, LeO (rotakeep_ComplexBjoerner.j0 k y0 y1 y2) (rotakeep_ComplexBjoerner.j0 (k + 1) y0 y1 y2)) ∧ (∀ y0 y1 y2 y3 y4 y5 y6, LeO (rotakeep_ComplexBjoerner.j1 k y0 y1 y2 y3 y4 y5 y6) (rotakeep_ComplexBjoerner.j1 (k + 1) y0 y1 y2 y3 y4 y5 y6)) ∧ (∀ y0 y1 y2 y3 y4 y5 y6 y7 y8, LeO (rotakeep_ComplexBjoerner.l0 k y0 y1 y2 y3 y4 y5 y6 y7 y8) (rotakeep_ComplexBjoerner.l0 (k + 1) y0 y1 y2 y3 y4 y5 y6 y7 y8)) ∧ (∀ y0 y1 y2 y3, LeO (rotakeep_ComplexBjoerner.l1 k y0 y1 y2 y3) (rotakeep_ComplexBjoerner.l1 (k + 1) y0 y1 y2 y3)) ∧ (∀ y0 y1 y2 y3 y4 y5 y6 y7 y8, LeO (rotakeep_ComplexBjoerner.l2 k y0 y1 y2 y3 y4 y5 y6 y7 y8) (rotakeep_ComplexBjoerner.l2 (k + 1) y0 y1 y2 y3 y4 y5 y6 y7 y8))
  | 0 => ⟨fun _ _ _ r h => by simp [rotakeep_ComplexBjoerner.j0] at h, fun _ _ _ _ _ _ _ r h => by simp [rotakeep_ComplexBjoerner.j1] at h, fun _ _ _ _ _ _ _ _ _ r h => by simp [rotakeep_ComplexBjoerner.l0] at h, fun _ _ _ _ r h => by simp [rotakeep_ComplexBjoerner.l1] at h, fun _ _ _ _ _ _ _ _ _ r h => by simp [rotakeep_ComplexBjoerner.l2] at h⟩
  | k + 1 => by
    obtain ⟨ih0, ih1, ih2, ih3, ih4⟩ := rotakeep_ComplexBjoerner.mono_l k
    refine ⟨?_, ?_, ?_, ?_, ?_⟩
    · intro y0 y1 y2
      unfold rotakeep_ComplexBjoerner.j0
      repeat' first
      | (with_reducible exact ih0 _ _ _)
      | (with_reducible exact ih1 _ _ _ _ _ _ _)
      | (with_reducible exact ih2 _ _ _ _ _ _ _ _ _)
      | (with_reducible exact ih3 _ _ _ _)
      | (with_reducible exact ih4 _ _ _ _ _ _ _ _ _)
      | (with_reducible exact Ext.Activities.mono _ _ _ _)
      | (with_reducible exact Ext.Lexical.mono _ _ _)
      | (with_reducible exact Ext.Restriction.mono _ _ _ _)
      | (with_reducible exact complex_H.mono _ _ _)
      | (with_reducible exact complex_Shells.mono _ _ _ _)
      | (with_reducible exact rotalaw_Same_int.mono _ _ _)
      | (with_reducible exact rotaref_Size.mono _ _)
      | (with_reducible exact tutte_Polynomial.mono _ _ _)
      | (with_reducible exact LeO.refl _)
      | (with_reducible exact LeO.none _)
      | (with_reducible refine LeO.ite ?_ ?_)
      | (with_reducible refine LeO.bind ?_ (fun _ => ?_))
      | exact ih0 _ _ _
      | exact ih1 _ _ _ _ _ _ _
      | exact ih2 _ _ _ _ _ _ _ _ _
      | exact ih3 _ _ _ _
      | exact ih4 _ _ _ _ _ _ _ _ _
      | exact Ext.Activities.mono _ _ _ _
      | exact Ext.Lexical.mono _ _ _
      | exact Ext.Restriction.mono _ _ _ _
      | exact complex_H.mono _ _ _
      | exact complex_Shells.mono _ _ _ _
      | exact rotalaw_Same_int.mono _ _ _
      | exact rotaref_Size.mono _ _
      | exact tutte_Polynomial.mono _ _ _
      | exact LeO.none _
      | refine LeO.ite ?_ ?_
      | refine LeO.bind ?_ (fun _ => ?_)
    · intro y0 y1 y2 y3 y4 y5 y6
      unfold rotakeep_ComplexBjoerner.j1
      repeat' first
      | (with_reducible exact ih0 _ _ _)
      | (with_reducible exact ih1 _ _ _ _ _ _ _)
      | (with_reducible exact ih2 _ _ _ _ _ _ _ _ _)
      | (with_reducible exact ih3 _ _ _ _)
      | (with_reducible exact ih4 _ _ _ _ _ _ _ _ _)
      | (with_reducible exact Ext.Activities.mono _ _ _ _)
      | (with_reducible exact Ext.Lexical.mono _ _ _)
      | (with_reducible exact Ext.Restriction.mono _ _ _ _)
      | (with_reducible exact complex_H.mono _ _ _)
      | (with_reducible exact complex_Shells.mono _ _ _ _)
      | (with_reducible exact rotalaw_Same_int.mono _ _ _)
      | (with_reducible exact rotaref_Size.mono _ _)
      | (with_reducible exact tutte_Polynomial.mono _ _ _)
      | (with_reducible exact LeO.refl _)
      | (with_reducible exact LeO.none _)
      | (with_reducible refine LeO.ite ?_ ?_)
      | (with_reducible refine LeO.bind ?_ (fun _ => ?_))
      | exact ih0 _ _ _
      | exact ih1 _ _ _ _ _ _ _
      | exact ih2 _ _ _ _ _ _ _ _ _
      | exact ih3 _ _ _ _
      | exact ih4 _ _ _ _ _ _ _ _ _
      | exact Ext.Activities.mono _ _ _ _
      | exact Ext.Lexical.mono _ _ _
      | exact Ext.Restriction.mono _ _ _ _
      | exact complex_H.mono _ _ _
      | exact complex_Shells.mono _ _ _ _
      | exact rotalaw_Same_int.mono _ _ _
      | exact rotaref_Size.mono _ _
      | exact tutte_Polynomial.mono _ _ _
      | exact LeO.none _
      | refine LeO.ite ?_ ?_
      | refine LeO.bind ?_ (fun _ => ?_)
    · intro y0 y1 y2 y3 y4 y5 y6 y7 y8
      unfold rotakeep_ComplexBjoerner.l0
      repeat' first
      | (with_reducible exact ih0 _ _ _)
      | (with_reducible exact ih1 _ _ _ _ _ _ _)
      | (with_reducible exact ih2 _ _ _ _ _ _ _ _ _)
      | (with_reducible exact ih3 _ _ _ _)
      | (with_reducible exact ih4 _ _ _ _ _ _ _ _ _)
      | (with_reducible exact Ext.Activities.mono _ _ _ _)
      | (with_reducible exact Ext.Lexical.mono _ _ _)
      | (with_reducible exact Ext.Restriction.mono _ _ _ _)
      | (with_reducible exact complex_H.mono _ _ _)
      | (with_reducible exact complex_Shells.mono _ _ _ _)
      | (with_reducible exact rotalaw_Same_int.mono _ _ _)
      | (with_reducible exact rotaref_Size.mono _ _)
      | (with_reducible exact tutte_Polynomial.mono _ _ _)
      | (with_reducible exact LeO.refl _)
      | (with_reducible exact LeO.none _)
      | (with_reducible refine LeO.ite ?_ ?_)
      | (with_reducible refine LeO.bind ?_ (fun _ => ?_))
      | exact ih0 _ _ _
      | exact ih1 _ _ _ _ _ _ _
      | exact ih2 _ _ _ _ _ _ _ _ _
      | exact ih3 _ _ _ _
      | exact ih4 _ _ _ _ _ _ _ _ _
      | exact Ext.Activities.mono _ _ _ _
      | exact Ext.Lexical.mono _ _ _
      | exact Ext.Restriction.mono _ _ _ _
      | exact complex_H.mono _ _ _
      | exact complex_Shells.mono _ _ _ _
      | exact rotalaw_Same_int.mono _ _ _
      | exact rotaref_Size.mono _ _
      | exact tutte_Polynomial.mono _ _ _
      | exact LeO.none _
      | refine LeO.ite ?_ ?_
      | refine LeO.bind ?_ (fun _ => ?_)
    · intro y0 y1 y2 y3
      unfold rotakeep_ComplexBjoerner.l1
      repeat' first
      | (with_reducible exact ih0 _ _ _)
      | (with_reducible exact ih1 _ _ _ _ _ _ _)
      | (with_reducible exact ih2 _ _ _ _ _ _ _ _ _)
      | (with_reducible exact ih3 _ _ _ _)
      | (with_reducible exact ih4 _ _ _ _ _ _ _ _ _)
      | (with_reducible exact Ext.Activities.mono _ _ _ _)
      | (with_reducible exact Ext.Lexical.mono _ _ _)
      | (with_reducible exact Ext.Restriction.mono _ _ _ _)
      | (with_reducible exact complex_H.mono _ _ _)
      | (with_reducible exact complex_Shells.mono _ _ _ _)
      | (with_reducible exact rotalaw_Same_int.mono _ _ _)
      | (with_reducible exact rotaref_Size.mono _ _)
      | (with_reducible exact tutte_Polynomial.mono _ _ _)
      | (with_reducible exact LeO.refl _)
      | (with_reducible exact LeO.none _)
      | (with_reducible refine LeO.ite ?_ ?_)
      | (with_reducible refine LeO.bind ?_ (fun _ => ?_))
      | exact ih0 _ _ _
      | exact ih1 _ _ _ _ _ _ _
      | exact ih2 _ _ _ _ _ _ _ _ _
      | exact ih3 _ _ _ _
      | exact ih4 _ _ _ _ _ _ _ _ _
      | exact Ext.Activities.mono _ _ _ _
      | exact Ext.Lexical.mono _ _ _
      | exact Ext.Restriction.mono _ _ _ _
      | exact complex_H.mono _ _ _
      | exact complex_Shells.mono _ _ _ _
      | exact rotalaw_Same_int.mono _ _ _
      | exact rotaref_Size.mono _ _
      | exact tutte_Polynomial.mono _ _ _
      | exact LeO.none _
      | refine LeO.ite ?_ ?_
      | refine LeO.bind ?_ (fun _ => ?_)
    · intro y0 y1 y2 y3 y4 y5 y6 y7 y8
      unfold rotakeep_ComplexBjoerner.l2
      repeat' first
      | (with_reducible exact ih0 _ _ _)
      | (with_reducible exact ih1 _ _ _ _ _ _ _)
      | (with_reducible exact ih2 _ _ _ _ _ _ _ _ _)
      | (with_reducible exact ih3 _ _ _ _)
      | (with_reducible exact ih4 _ _ _ _ _ _ _ _ _)
      | (with_reducible exact Ext.Activities.mono _ _ _ _)
      | (with_reducible exact Ext.Lexical.mono _ _ _)
      | (with_reducible exact Ext.Restriction.mono _ _ _ _)
      | (with_reducible exact complex_H.mono _ _ _)
      | (with_reducible exact complex_Shells.mono _ _ _ _)
      | (with_reducible exact rotalaw_Same_int.mono _ _ _)
      | (with_reducible exact rotaref_Size.mono _ _)
      | (with_reducible exact tutte_Polynomial.mono _ _ _)
      | (with_reducible exact LeO.refl _)
      | (with_reducible exact LeO.none _)
      | (with_reducible refine LeO.ite ?_ ?_)
      | (with_reducible refine LeO.bind ?_ (fun _ => ?_))
      | exact ih0 _ _ _
      | exact ih1 _ _ _ _ _ _ _
      | exact ih2 _ _ _ _ _ _ _ _ _
      | exact ih3 _ _ _ _
      | exact ih4 _ _ _ _ _ _ _ _ _
      | exact Ext.Activities.mono _ _ _ _
      | exact Ext.Lexical.mono _ _ _
      | exact Ext.Restriction.mono _ _ _ _
      | exact complex_H.mono _ _ _
      | exact complex_Shells.mono _ _ _ _
      | exact rotalaw_Same_int.mono _ _ _
      | exact rotaref_Size.mono _ _
      | exact tutte_Polynomial.mono _ _ _
      | exact LeO.none _
      | refine LeO.ite ?_ ?_
      | refine LeO.bind ?_ (fun _ => ?_)
theorem rotakeep_ComplexBjoerner.mono : ∀ a0 a1 k, LeO (rotakeep_ComplexBjoerner.f k a0 a1) (rotakeep_ComplexBjoerner.f (k + 1) a0 a1) := by
  intro a0 a1 k
  obtain ⟨ih0, ih1, ih2, ih3, ih4⟩ := rotakeep_ComplexBjoerner.mono_l k
  unfold rotakeep_ComplexBjoerner.f
  repeat' first
      | (with_reducible exact ih0 _ _ _)
      | (with_reducible exact ih1 _ _ _ _ _ _ _)
      | (with_reducible exact ih2 _ _ _ _ _ _ _ _ _)
      | (with_reducible exact ih3 _ _ _ _)
      | (with_reducible exact ih4 _ _ _ _ _ _ _ _ _)
      | (with_reducible exact Ext.Activities.mono _ _ _ _)
      | (with_reducible exact Ext.Lexical.mono _ _ _)
      | (with_reducible exact Ext.Restriction.mono _ _ _ _)
      | (with_reducible exact complex_H.mono _ _ _)
      | (with_reducible exact complex_Shells.mono _ _ _ _)
      | (with_reducible exact rotalaw_Same_int.mono _ _ _)
      | (with_reducible exact rotaref_Size.mono _ _)
      | (with_reducible exact tutte_Polynomial.mono _ _ _)
      | (with_reducible exact LeO.refl _)
      | (with_reducible exact LeO.none _)
      | (with_reducible refine LeO.ite ?_ ?_)
      | (with_reducible refine LeO.bind ?_ (fun _ => ?_))
      | exact ih0 _ _ _
      | exact ih1 _ _ _ _ _ _ _
      | exact ih2 _ _ _ _ _ _ _ _ _
      | exact ih3 _ _ _ _
      | exact ih4 _ _ _ _ _ _ _ _ _
      | exact Ext.Activities.mono _ _ _ _
      | exact Ext.Lexical.mono _ _ _
      | exact Ext.Restriction.mono _ _ _ _
      | exact complex_H.mono _ _ _
      | exact complex_Shells.mono _ _ _ _
      | exact rotalaw_Same_int.mono _ _ _
      | exact rotaref_Size.mono _ _
      | exact tutte_Polynomial.mono _ _ _
      | exact LeO.none _
      | refine LeO.ite ?_ ?_
      | refine LeO.bind ?_ (fun _ => ?_)
set_option maxHeartbeats 8000000 in
set_option maxRecDepth 100000 in
theorem rotakeep_ComplexBjoerner.calls (k : Nat) (a0_0 : Int) (A0_1 : Option Addr) (c0_1 : Nat) (l0_1 : List Int) (r : Bool) (w : World) (hr0_1 : Kd.C (Kd.int .i64) w A0_1 l0_1.length l0_1) (hc0_1 : l0_1.length ≤ c0_1) (h : rotakeep_ComplexBjoerner.f k a0_0 l0_1 = some r) :
    Calls Try.prog 4 #[.agg #[.int .i64 a0_0, .slice A0_1 l0_1.length c0_1]] w fun e w' => e = .returned (.bool r) ∧ Below w.heap.size w w' := by
  have hu33 := Try.underlying33
  have HR0_1 := Aside0.mk hr0_1
  have HC0_1 := Aside0.mk hc0_1
  clear hr0_1 hc0_1
  have HB := Aside0.mk (Below.refl w.heap.size w)
  have H : ((rotakeep_two.f).bind fun bt210 => ((Ext.Lexical.f k bt210.1 bt210.2).bind fun bt214 => (if bt214.2 = 0 then ((rotalaw_Same_int.f k bt214.1 (([3, 5, 9, 6, 10, 12] : List Int))).bind fun t221 => (rotakeep_ComplexBjoerner.j0 k (!t221) a0_0 l0_1)) else (rotakeep_ComplexBjoerner.j0 k true a0_0 l0_1)))) = some r := h
  clear h
  replace H := Option.bind_eq_some_iff.mp H
  obtain ⟨⟨t210, t211⟩, A20, H⟩ := H
  replace H : ((Ext.Lexical.f k t210 t211).bind fun bt214 => (if bt214.2 = 0 then ((rotalaw_Same_int.f k bt214.1 (([3, 5, 9, 6, 10, 12] : List Int))).bind fun t221 => (rotakeep_ComplexBjoerner.j0 k (!t221) a0_0 l0_1)) else (rotakeep_ComplexBjoerner.j0 k true a0_0 l0_1))) = some r := H
  have A2 := Aside0.mk A20
  clear A20
  replace H := Option.bind_eq_some_iff.mp H
  obtain ⟨⟨t214, t217⟩, A30, H⟩ := H
  replace H : (if t217 = 0 then ((rotalaw_Same_int.f k t214 (([3, 5, 9, 6, 10, 12] : List Int))).bind fun t221 => (rotakeep_ComplexBjoerner.j0 k (!t221) a0_0 l0_1)) else (rotakeep_ComplexBjoerner.j0 k true a0_0 l0_1)) = some r := H
  have A3 := Aside0.mk A30
  clear A30
  have HC4 := Aside0.mk H
  clear H
  go_enter Try.func4, Try.ntmps4
  go_upto_region 2 with (first | ((with_reducible refine gate_dst (N := 1) rfl ?_); (try (refine gate_guard (by rfl) ?_; dsimp only)); refine box_event ?hg (N := 1) ?hd (cs := #[.int .i64 a0_0, .slice A0_1 l0_1.length c0_1]) (t := 33) ?hr ?_; (case hd => rfl); (case hg => rfl); (case hr => first | (go_simp; done) | (go_simp; rfl)); intro gb209 hg w5 hbox hb; have n0_ := Aside0.mk (below_step (by repeat (first | (with_reducible first | exact HB.out | apply below_alloc | apply pw_below_drewN | apply below_drew1) | exact HB.out)) hb); have n1_ := Aside0.mk (hbox); have n2_ := Aside0.mk ((by rw [hg]; exact (below_size (by repeat (first | (with_reducible first | exact HB.out | apply below_alloc | apply pw_below_drewN | apply below_drew1) | exact HB.out))) : w.heap.size ≤ gb209)); have n3_ := Aside0.mk ((by rw [hg]; exact (below_size (by repeat (first | (with_reducible first | exact HB.out | apply below_alloc | apply pw_below_drewN | apply below_drew1) | exact HB.out))) : w.heap.size ≤ gb209)); clear HB; have HB := n0_; have BK209 := n1_; have GW209 := n2_; have GE209 := n3_; clear n0_ n1_ n2_ n3_; clear hb hbox hg) | ((with_reducible refine gate_callee (f := 12) rfl ?_); refine goesL_ (some 26) rfl rfl Try.func12 (by kernel_rfl) rfl #[] rfl (by (try simp only [List.map_toArray, List.map_cons, List.map_nil]); first | done | rfl | (simp only [List.length_drop, List.length_take]; rfl)) ?_; (with_reducible refine (rotakeep_two.calls  t210 t211 _ A2.out).mono ?_); rintro e w6 ⟨v212, rfl, ho0, hb⟩; refine ⟨_, rfl, ?_⟩; have n0_ := Aside0.mk (Kd.R_lower ho0 (below_size (by repeat (first | (with_reducible first | exact HB.out | apply below_alloc | apply pw_below_drewN | apply below_drew1 | refine below_set ?_ GE209.out) | exact HB.out)))); have n1_ := Aside0.mk (blk_below (g := gb209) (o := .cells #[.int .i64 a0_0, .slice A0_1 l0_1.length c0_1] 33 (0, 0)) (by (with_reducible repeat (first | refine blk_drewN ?_ _ | refine blk_drew ?_ | refine blk_alloc ?_ _)); exact BK209.out) hb); have n2_ := Aside0.mk (below_step (by repeat (first | (with_reducible first | exact HB.out | apply below_alloc | apply pw_below_drewN | apply below_drew1 | refine below_set ?_ GE209.out) | exact HB.out)) hb); clear BK209; clear HB; have HO213 := n0_; have BK209 := n1_; have HB := n2_; clear n0_ n1_ n2_; (try clear hb); (try clear hb2); (try clear hk); (try clear hi); (try clear ho0); obtain ⟨Ao7, co7, eo7⟩ := Kd.R_slice HO213.out; subst eo7) | ((with_reducible refine gate_callee (f := 11) rfl ?_); refine goesL_ (some 27) rfl rfl Try.func11 (by kernel_rfl) rfl #[.agg #[.int .i64 t210, .slice Ao7 t211.length co7]] rfl (by (try simp only [List.map_toArray, List.map_cons, List.map_nil]); first | done | rfl | (simp only [List.length_drop, List.length_take]; rfl)) ?_; (with_reducible refine (Ext.Lexical.calls k t210 _ _ t211 t214 t217 _ ?side1 ?side2 A3.out).mono ?_); (case side1 => repeat (first | exact (Kd.R_reads' HO213.out).2.2 | (with_reducible refine Kd.C_alloc ?_ _) | (with_reducible refine Kd.C_drewN ?_ _) | (with_reducible refine Kd.C_drew ?_))); (case side2 => exact (Kd.R_reads' HO213.out).2.1); rintro e w8 ⟨v215, rfl, ho0, hb⟩; refine ⟨_, rfl, ?_⟩; have n0_ := Aside0.mk (Kd.R_elder' (by (with_reducible repeat (first | apply Kd.R_alloc | apply Kd.R_drewN | apply Kd.R_drew)); exact HO213.out) (Kd.R_base ho0) hb); have n1_ := Aside0.mk (Kd.R_lower (Kd.R_new' ho0 (Kd.R_lt (by (with_reducible repeat (first | apply Kd.R_alloc | apply Kd.R_drewN | apply Kd.R_drew)); exact HO213.out))) (below_size (by repeat (first | (with_reducible first | exact HB.out | apply below_alloc | apply pw_below_drewN | apply below_drew1 | refine below_set ?_ GE209.out) | exact HB.out)))); have n2_ := Aside0.mk (blk_below (g := gb209) (o := .cells #[.int .i64 a0_0, .slice A0_1 l0_1.length c0_1] 33 (0, 0)) (by (with_reducible repeat (first | refine blk_drewN ?_ _ | refine blk_drew ?_ | refine blk_alloc ?_ _)); exact BK209.out) hb); have n3_ := Aside0.mk (below_step (by repeat (first | (with_reducible first | exact HB.out | apply below_alloc | apply pw_below_drewN | apply below_drew1 | refine below_set ?_ GE209.out) | exact HB.out)) hb); clear HO213; clear BK209; clear HB; have HO213 := n0_; have HO216 := n1_; have BK209 := n2_; have HB := n3_; clear n0_ n1_ n2_ n3_; (try clear hb); (try clear hb2); (try clear hk); (try clear hi); (try clear ho0)))
  (try simp only [Act.put, List.setIfInBounds_toArray, List.set_cons_zero, List.set_cons_succ])
  go_cut [37] (fun v37 wc => ∃ (kq : Nat) (x37_3 : Bool), v37 = .bool x37_3 ∧ Aside0 (rotakeep_ComplexBjoerner.j0 kq x37_3 a0_0 l0_1 = some r) ∧ Aside0 (kq ≤ k) ∧ Aside0 (wc.heap[gb209]? = some (.cells #[.int .i64 a0_0, (.slice A0_1 l0_1.length c0_1)] 33 (0, 0))) ∧ Aside0 (Below w.heap.size w wc))
  case first =>
    have H := HC4.out
    clear HC4
    by_cases c9 : t217 = 0
    · rw [if_pos c9] at H
      have c9b0 : (t217 == 0) = true := beq_iff_eq.mpr c9
      have c9b1 : (t217 != 0) = false := bne_eq_false_iff_eq.mpr c9
      clear c9
      (first | rw [c9b0] | (simp only [i64_w, i32_w]; rw [c9b0]) | skip)
      obtain ⟨y218, hy218⟩ : ∃ y_ : List Int, y_ = (([3, 5, 9, 6, 10, 12] : List Int)) := ⟨_, rfl⟩
      replace H : ((rotalaw_Same_int.f k t214 y218).bind fun t221 => (rotakeep_ComplexBjoerner.j0 k (!t221) a0_0 l0_1)) = some r := by first | (rw [hy218]; with_reducible exact H) | (have H2_ := (Option.bind_some _ _).symm.trans H; rw [hy218]; with_reducible exact H2_) | (have H2_ := (Option.bind_some _ _).symm.trans H; with_reducible exact H2_) | with_reducible exact H | (rw [hy218]; exact H) | exact H
      have Ny218 := Aside0.mk hy218
      clear hy218
      replace H := Option.bind_eq_some_iff.mp H
      obtain ⟨t221, A100, H⟩ := H
      replace H : (rotakeep_ComplexBjoerner.j0 k (!t221) a0_0 l0_1) = some r := H
      have A10 := Aside0.mk A100
      clear A100
      have H' := Aside0.mk H
      clear H
      go_wp2_with (first | ((with_reducible refine gate_dst (N := 34) rfl ?_); (try (refine gate_guard (by rfl) ?_; dsimp only)); refine Kd.R_lit (Kd.int .i64) _ 3 ?hg (N := 34) ?hd (xs := ([3, 5, 9, 6, 10, 12] : List Int)) (inner := [.int .i64 3, .int .i64 5, .int .i64 9, .int .i64 6, .int .i64 10, .int .i64 12]) (ok := fun _ => True) (okp := fun _ => True) ?hr ?hp (fun _ hk => hk) trivial (Below.refl _ _) (Nat.le_refl _) (by simp) ?_; (case hd => rfl); (case hg => rfl); (case hr => first | (go_simp; done) | (go_simp; rfl)); (case hp => exact (Reps.one (show Kd.M (Kd.int .i64) _ _ _ 3 [.int .i64 3] from rfl) (Reps.one (show Kd.M (Kd.int .i64) _ _ _ 5 [.int .i64 5] from rfl) (Reps.one (show Kd.M (Kd.int .i64) _ _ _ 9 [.int .i64 9] from rfl) (Reps.one (show Kd.M (Kd.int .i64) _ _ _ 6 [.int .i64 6] from rfl) (Reps.one (show Kd.M (Kd.int .i64) _ _ _ 10 [.int .i64 10] from rfl) (Reps.one (show Kd.M (Kd.int .i64) _ _ _ 12 [.int .i64 12] from rfl) (Reps.none _ _)))))))); intro v219 w11 ho12 hb hg_ hnew_; clear hg_ hnew_; (first | rw [← Ny218.out] at ho12 | (simp only [Int.reduceToNat] at ho12; rw [← Ny218.out] at ho12)); have n0_ := Aside0.mk (Kd.R_elder' (by (with_reducible repeat (first | apply Kd.R_alloc | apply Kd.R_drewN | apply Kd.R_drew)); exact HO213.out) (Kd.R_base ho12) hb); have n1_ := Aside0.mk (Kd.R_elder' (by (with_reducible repeat (first | apply Kd.R_alloc | apply Kd.R_drewN | apply Kd.R_drew)); exact HO216.out) (Kd.R_base ho12) hb); have n2_ := Aside0.mk (Kd.R_lower (Kd.R_new' (Kd.R_new' ho12 (Kd.R_lt (by (with_reducible repeat (first | apply Kd.R_alloc | apply Kd.R_drewN | apply Kd.R_drew)); exact HO213.out))) (Kd.R_lt (by (with_reducible repeat (first | apply Kd.R_alloc | apply Kd.R_drewN | apply Kd.R_drew)); exact HO216.out))) (below_size (by repeat (first | (with_reducible first | exact HB.out | apply below_alloc | apply pw_below_drewN | apply below_drew1 | refine below_set ?_ GE209.out) | exact HB.out)))); have n3_ := Aside0.mk (blk_below (g := gb209) (o := .cells #[.int .i64 a0_0, .slice A0_1 l0_1.length c0_1] 33 (0, 0)) (by (with_reducible repeat (first | refine blk_drewN ?_ _ | refine blk_drew ?_ | refine blk_alloc ?_ _)); exact BK209.out) hb); have n4_ := Aside0.mk (below_step (by repeat (first | (with_reducible first | exact HB.out | apply below_alloc | apply pw_below_drewN | apply below_drew1 | refine below_set ?_ GE209.out) | exact HB.out)) hb); clear HO213; clear HO216; clear BK209; clear HB; have HO213 := n0_; have HO216 := n1_; have HO220 := n2_; have BK209 := n3_; have HB := n4_; clear n0_ n1_ n2_ n3_ n4_; clear hb ho12; obtain ⟨Ao13, co13, eo13⟩ := Kd.R_slice HO216.out; subst eo13; obtain ⟨Ao14, co14, eo14⟩ := Kd.R_slice HO220.out; subst eo14) | (go_at_call 13; (with_reducible refine (rotalaw_Same_int.calls k _ _ t214 _ _ y218 t221 _ ?side1 ?side2 ?side3 ?side4 A10.out).mono ?_); (case side1 => repeat (first | exact (Kd.R_reads' HO216.out).2.2 | (with_reducible refine Kd.C_alloc ?_ _) | (with_reducible refine Kd.C_drewN ?_ _) | (with_reducible refine Kd.C_drew ?_))); (case side2 => exact (Kd.R_reads' HO216.out).2.1); (case side3 => repeat (first | exact (Kd.R_reads' HO220.out).2.2 | (with_reducible refine Kd.C_alloc ?_ _) | (with_reducible refine Kd.C_drewN ?_ _) | (with_reducible refine Kd.C_drew ?_))); (case side4 => exact (Kd.R_reads' HO220.out).2.1); rintro e w' ⟨rfl, ⟨nd, rfl⟩⟩))
      go_meet
      case rel => exact ⟨_, (!t221), (by first | rfl | (simp; done) | (simp [*]; done)), H', ⟨by first | omega | exact Nat.le_refl _⟩, ⟨by (with_reducible repeat (first | refine blk_drewN ?_ _ | refine blk_drew ?_ | refine blk_alloc ?_ _)); exact BK209.out⟩, ⟨by repeat (first | (with_reducible first | exact HB.out | apply below_alloc | apply pw_below_drewN | apply below_drew1 | refine below_set ?_ GE209.out) | exact HB.out)⟩⟩
    · rw [if_neg c9] at H
      have c9b0 : (t217 == 0) = false := beq_eq_false_iff_ne.mpr c9
      have c9b1 : (t217 != 0) = true := bne_iff_ne.mpr c9
      (first | rw [c9b0] | (simp only [i64_w, i32_w]; rw [c9b0]) | skip)
      have H' := Aside0.mk H
      clear H
      go_wp2
      go_meet
      case rel => exact ⟨_, (true), (by first | rfl | (simp; done) | (simp [*]; done)), H', ⟨by first | omega | exact Nat.le_refl _⟩, ⟨by (with_reducible repeat (first | refine blk_drewN ?_ _ | refine blk_drew ?_ | refine blk_alloc ?_ _)); exact BK209.out⟩, ⟨by repeat (first | (with_reducible first | exact HB.out | apply below_alloc | apply pw_below_drewN | apply below_drew1 | refine below_set ?_ GE209.out) | exact HB.out)⟩⟩
  case rest =>
    clear HC4
    try clear c1
    try clear p2
    try clear c4
    try clear c9
    try clear c9b0
    try clear c9b1
    try clear c11
    try clear c12
    obtain ⟨kq, x37_3, rfl, HA, HJ3, BK209, HB⟩ := hcut
    cases kq with
    | zero => exact absurd HA.out (by simp [rotakeep_ComplexBjoerner.j0])
    | succ kj3 =>
      have H := HA.out
      clear HA
      simp only [rotakeep_ComplexBjoerner.j0] at H
      by_cases c15 : x37_3 = true
      · subst c15
        have H1 : (some false) = some r := by rw [if_pos rfl] at H; exact H
        clear H
        have H := H1
        clear H1
        obtain rfl := Option.some.inj H
        go_wp2
        go_ret
        exact ⟨by first | rfl | (simp [errW_none, errW_some] <;> rfl) | (simp [*, errW_none, errW_some] <;> rfl), by repeat (first | (with_reducible first | exact HB.out | apply below_alloc | apply pw_below_drewN | apply below_drew1 | refine below_set ?_ GE209.out) | exact HB.out)⟩
      · replace c15 := Bool.eq_false_iff.mpr c15
        subst c15
        have H1 : ((Ext.Lexical.f kj3 a0_0 l0_1).bind fun bt222 => (if bt222.2 = 0 then ((complex_Shells.f kj3 a0_0 l0_1 bt222.1).bind fun bt226 => ((Ext.Restriction.f kj3 a0_0 l0_1 bt222.1).bind fun bt228 => ((complex_H.f kj3 a0_0 l0_1).bind fun bt232 => ((tutte_Polynomial.f kj3 a0_0 l0_1).bind fun bt236 => (if bt226.2 = 0 then (if bt228.2 = 0 then (if bt232.2 = 0 then (if bt236.2 = 0 then (if bt226.1 = true then (if (bt228.1.length : Int) = (bt222.1.length : Int) then (rotakeep_ComplexBjoerner.j1 kj3 bt222.1 bt228.1 bt232.1 bt236.1 ((bt232.1.length : Int) != (bt236.1.length : Int)) a0_0 l0_1) else (rotakeep_ComplexBjoerner.j1 kj3 bt222.1 bt228.1 bt232.1 bt236.1 true a0_0 l0_1)) else (rotakeep_ComplexBjoerner.j1 kj3 bt222.1 bt228.1 bt232.1 bt236.1 true a0_0 l0_1)) else (rotakeep_ComplexBjoerner.j1 kj3 bt222.1 bt228.1 bt232.1 bt236.1 true a0_0 l0_1)) else (rotakeep_ComplexBjoerner.j1 kj3 bt222.1 bt228.1 bt232.1 bt236.1 true a0_0 l0_1)) else (rotakeep_ComplexBjoerner.j1 kj3 bt222.1 bt228.1 bt232.1 bt236.1 true a0_0 l0_1)) else (rotakeep_ComplexBjoerner.j1 kj3 bt222.1 bt228.1 bt232.1 bt236.1 true a0_0 l0_1)))))) else (some ((bt222.1.length : Int) == 0)))) = some r := by rw [if_neg (show ¬ (false = true) by decide)] at H; exact H
        clear H
        have H := H1
        clear H1
        replace H := Option.bind_eq_some_iff.mp H
        obtain ⟨⟨t222, t225⟩, A160, H⟩ := H
        replace H : (if t225 = 0 then ((complex_Shells.f kj3 a0_0 l0_1 t222).bind fun bt226 => ((Ext.Restriction.f kj3 a0_0 l0_1 t222).bind fun bt228 => ((complex_H.f kj3 a0_0 l0_1).bind fun bt232 => ((tutte_Polynomial.f kj3 a0_0 l0_1).bind fun bt236 => (if bt226.2 = 0 then (if bt228.2 = 0 then (if bt232.2 = 0 then (if bt236.2 = 0 then (if bt226.1 = true then (if (bt228.1.length : Int) = (t222.length : Int) then (rotakeep_ComplexBjoerner.j1 kj3 t222 bt228.1 bt232.1 bt236.1 ((bt232.1.length : Int) != (bt236.1.length : Int)) a0_0 l0_1) else (rotakeep_ComplexBjoerner.j1 kj3 t222 bt228.1 bt232.1 bt236.1 true a0_0 l0_1)) else (rotakeep_ComplexBjoerner.j1 kj3 t222 bt228.1 bt232.1 bt236.1 true a0_0 l0_1)) else (rotakeep_ComplexBjoerner.j1 kj3 t222 bt228.1 bt232.1 bt236.1 true a0_0 l0_1)) else (rotakeep_ComplexBjoerner.j1 kj3 t222 bt228.1 bt232.1 bt236.1 true a0_0 l0_1)) else (rotakeep_ComplexBjoerner.j1 kj3 t222 bt228.1 bt232.1 bt236.1 true a0_0 l0_1)) else (rotakeep_ComplexBjoerner.j1 kj3 t222 bt228.1 bt232.1 bt236.1 true a0_0 l0_1)))))) else (some ((t222.length : Int) == 0))) = some r := H
        have A16 := Aside0.mk A160
        clear A160
        by_cases c17 : t225 = 0
        · rw [if_pos c17] at H
          have c17b0 : (t225 == 0) = true := beq_iff_eq.mpr c17
          have c17b1 : (t225 != 0) = false := bne_eq_false_iff_eq.mpr c17
          clear c17
          replace H := Option.bind_eq_some_iff.mp H
          obtain ⟨⟨t226, t227⟩, A180, H⟩ := H
          replace H : ((Ext.Restriction.f kj3 a0_0 l0_1 t222).bind fun bt228 => ((complex_H.f kj3 a0_0 l0_1).bind fun bt232 => ((tutte_Polynomial.f kj3 a0_0 l0_1).bind fun bt236 => (if t227 = 0 then (if bt228.2 = 0 then (if bt232.2 = 0 then (if bt236.2 = 0 then (if t226 = true then (if (bt228.1.length : Int) = (t222.length : Int) then (rotakeep_ComplexBjoerner.j1 kj3 t222 bt228.1 bt232.1 bt236.1 ((bt232.1.length : Int) != (bt236.1.length : Int)) a0_0 l0_1) else (rotakeep_ComplexBjoerner.j1 kj3 t222 bt228.1 bt232.1 bt236.1 true a0_0 l0_1)) else (rotakeep_ComplexBjoerner.j1 kj3 t222 bt228.1 bt232.1 bt236.1 true a0_0 l0_1)) else (rotakeep_ComplexBjoerner.j1 kj3 t222 bt228.1 bt232.1 bt236.1 true a0_0 l0_1)) else (rotakeep_ComplexBjoerner.j1 kj3 t222 bt228.1 bt232.1 bt236.1 true a0_0 l0_1)) else (rotakeep_ComplexBjoerner.j1 kj3 t222 bt228.1 bt232.1 bt236.1 true a0_0 l0_1)) else (rotakeep_ComplexBjoerner.j1 kj3 t222 bt228.1 bt232.1 bt236.1 true a0_0 l0_1))))) = some r := H
          have A18 := Aside0.mk A180
          clear A180
          replace H := Option.bind_eq_some_iff.mp H
          obtain ⟨⟨t228, t229⟩, A190, H⟩ := H
          replace H : ((complex_H.f kj3 a0_0 l0_1).bind fun bt232 => ((tutte_Polynomial.f kj3 a0_0 l0_1).bind fun bt236 => (if t227 = 0 then (if t229 = 0 then (if bt232.2 = 0 then (if bt236.2 = 0 then (if t226 = true then (if (t228.length : Int) = (t222.length : Int) then (rotakeep_ComplexBjoerner.j1 kj3 t222 t228 bt232.1 bt236.1 ((bt232.1.length : Int) != (bt236.1.length : Int)) a0_0 l0_1) else (rotakeep_ComplexBjoerner.j1 kj3 t222 t228 bt232.1 bt236.1 true a0_0 l0_1)) else (rotakeep_ComplexBjoerner.j1 kj3 t222 t228 bt232.1 bt236.1 true a0_0 l0_1)) else (rotakeep_ComplexBjoerner.j1 kj3 t222 t228 bt232.1 bt236.1 true a0_0 l0_1)) else (rotakeep_ComplexBjoerner.j1 kj3 t222 t228 bt232.1 bt236.1 true a0_0 l0_1)) else (rotakeep_ComplexBjoerner.j1 kj3 t222 t228 bt232.1 bt236.1 true a0_0 l0_1)) else (rotakeep_ComplexBjoerner.j1 kj3 t222 t228 bt232.1 bt236.1 true a0_0 l0_1)))) = some r := H
          have A19 := Aside0.mk A190
          clear A190
          replace H := Option.bind_eq_some_iff.mp H
          obtain ⟨⟨t232, t233⟩, A200, H⟩ := H
          replace H : ((tutte_Polynomial.f kj3 a0_0 l0_1).bind fun bt236 => (if t227 = 0 then (if t229 = 0 then (if t233 = 0 then (if bt236.2 = 0 then (if t226 = true then (if (t228.length : Int) = (t222.length : Int) then (rotakeep_ComplexBjoerner.j1 kj3 t222 t228 t232 bt236.1 ((t232.length : Int) != (bt236.1.length : Int)) a0_0 l0_1) else (rotakeep_ComplexBjoerner.j1 kj3 t222 t228 t232 bt236.1 true a0_0 l0_1)) else (rotakeep_ComplexBjoerner.j1 kj3 t222 t228 t232 bt236.1 true a0_0 l0_1)) else (rotakeep_ComplexBjoerner.j1 kj3 t222 t228 t232 bt236.1 true a0_0 l0_1)) else (rotakeep_ComplexBjoerner.j1 kj3 t222 t228 t232 bt236.1 true a0_0 l0_1)) else (rotakeep_ComplexBjoerner.j1 kj3 t222 t228 t232 bt236.1 true a0_0 l0_1)) else (rotakeep_ComplexBjoerner.j1 kj3 t222 t228 t232 bt236.1 true a0_0 l0_1))) = some r := H
          have A20 := Aside0.mk A200
          clear A200
          replace H := Option.bind_eq_some_iff.mp H
          obtain ⟨⟨t236, t239⟩, A210, H⟩ := H
          replace H : (if t227 = 0 then (if t229 = 0 then (if t233 = 0 then (if t239 = 0 then (if t226 = true then (if (t228.length : Int) = (t222.length : Int) then (rotakeep_ComplexBjoerner.j1 kj3 t222 t228 t232 t236 ((t232.length : Int) != (t236.length : Int)) a0_0 l0_1) else (rotakeep_ComplexBjoerner.j1 kj3 t222 t228 t232 t236 true a0_0 l0_1)) else (rotakeep_ComplexBjoerner.j1 kj3 t222 t228 t232 t236 true a0_0 l0_1)) else (rotakeep_ComplexBjoerner.j1 kj3 t222 t228 t232 t236 true a0_0 l0_1)) else (rotakeep_ComplexBjoerner.j1 kj3 t222 t228 t232 t236 true a0_0 l0_1)) else (rotakeep_ComplexBjoerner.j1 kj3 t222 t228 t232 t236 true a0_0 l0_1)) else (rotakeep_ComplexBjoerner.j1 kj3 t222 t228 t232 t236 true a0_0 l0_1)) = some r := H
          have A21 := Aside0.mk A210
          clear A210
          have HC22 := Aside0.mk H
          clear H
          have hcz23_0 : wc.cell? ⟨gb209, 0, none⟩ = some (.int .i64 a0_0) := (blk_cell BK209.out 0).trans rfl
          have hcz23_1 : wc.cell? ⟨gb209, 1, none⟩ = some (.slice A0_1 l0_1.length c0_1) := (blk_cell BK209.out 1).trans rfl
          have hfz23_0 := blk_frozen BK209.out 0
          have hfz23_1 := blk_frozen BK209.out 1
          go_upto_region 11 with (first | ((with_reducible refine gate_callee (f := 11) rfl ?_); refine goesL_ (some 40) rfl rfl Try.func11 (by kernel_rfl) rfl #[.agg #[.int .i64 a0_0, .slice A0_1 l0_1.length c0_1]] rfl (by (try simp only [List.map_toArray, List.map_cons, List.map_nil]); first | done | rfl | (simp only [List.length_drop, List.length_take]; rfl)) ?_; (with_reducible refine (Ext.Lexical.calls kj3 a0_0 _ _ l0_1 t222 t225 _ ?side1 ?side2 A16.out).mono ?_); (case side1 => repeat (first | exact (Kd.C_below HR0_1.out HB.out) | (with_reducible refine Kd.C_alloc ?_ _) | (with_reducible refine Kd.C_drewN ?_ _) | (with_reducible refine Kd.C_drew ?_))); (case side2 => exact HC0_1.out); rintro e w24 ⟨v223, rfl, ho0, hb⟩; refine ⟨_, rfl, ?_⟩; have n0_ := Aside0.mk (Kd.R_lower ho0 (below_size (by repeat (first | (with_reducible first | exact HB.out | apply below_alloc | apply pw_below_drewN | apply below_drew1 | refine below_set ?_ GE209.out) | exact HB.out)))); have n1_ := Aside0.mk (blk_below (g := gb209) (o := .cells #[.int .i64 a0_0, .slice A0_1 l0_1.length c0_1] 33 (0, 0)) (by (with_reducible repeat (first | refine blk_drewN ?_ _ | refine blk_drew ?_ | refine blk_alloc ?_ _)); exact BK209.out) hb); have n2_ := Aside0.mk (below_step (by repeat (first | (with_reducible first | exact HB.out | apply below_alloc | apply pw_below_drewN | apply below_drew1 | refine below_set ?_ GE209.out) | exact HB.out)) hb); clear BK209; clear HB; have HO224 := n0_; have BK209 := n1_; have HB := n2_; clear n0_ n1_ n2_; (try clear hb); (try clear hb2); (try clear hk); (try clear hi); (try clear ho0); have hcz25_0 : w24.cell? ⟨gb209, 0, none⟩ = some (.int .i64 a0_0) := (blk_cell BK209.out 0).trans rfl; have hcz25_1 : w24.cell? ⟨gb209, 1, none⟩ = some (.slice A0_1 l0_1.length c0_1) := (blk_cell BK209.out 1).trans rfl; have hfz25_0 := blk_frozen BK209.out 0; have hfz25_1 := blk_frozen BK209.out 1; obtain ⟨Ao26, co26, eo26⟩ := Kd.R_slice HO224.out; subst eo26) | ((with_reducible refine gate_callee (f := 14) rfl ?_); refine goesL_ (some 54) rfl rfl Try.func14 (by kernel_rfl) rfl #[.int .i64 a0_0, .slice A0_1 l0_1.length c0_1, .slice Ao26 t222.length co26] rfl (by (try simp only [List.map_toArray, List.map_cons, List.map_nil]); first | done | rfl | (simp only [List.length_drop, List.length_take]; rfl)) ?_; (with_reducible refine (complex_Shells.calls kj3 a0_0 _ _ l0_1 _ _ t222 t226 t227 _ ?side1 ?side2 ?side3 ?side4 A18.out).mono ?_); (case side1 => repeat (first | exact (Kd.C_below HR0_1.out HB.out) | (with_reducible refine Kd.C_alloc ?_ _) | (with_reducible refine Kd.C_drewN ?_ _) | (with_reducible refine Kd.C_drew ?_))); (case side2 => exact HC0_1.out); (case side3 => repeat (first | exact (Kd.R_reads' HO224.out).2.2 | (with_reducible refine Kd.C_alloc ?_ _) | (with_reducible refine Kd.C_drewN ?_ _) | (with_reducible refine Kd.C_drew ?_))); (case side4 => exact (Kd.R_reads' HO224.out).2.1); rintro e w27 ⟨rfl, hb⟩; refine ⟨_, rfl, ?_⟩; have n0_ := Aside0.mk (Kd.R_below (by (with_reducible repeat (first | apply Kd.R_alloc | apply Kd.R_drewN | apply Kd.R_drew)); exact HO224.out) hb); have n1_ := Aside0.mk (blk_below (g := gb209) (o := .cells #[.int .i64 a0_0, .slice A0_1 l0_1.length c0_1] 33 (0, 0)) (by (with_reducible repeat (first | refine blk_drewN ?_ _ | refine blk_drew ?_ | refine blk_alloc ?_ _)); exact BK209.out) hb); have n2_ := Aside0.mk (below_step (by repeat (first | (with_reducible first | exact HB.out | apply below_alloc | apply pw_below_drewN | apply below_drew1 | refine below_set ?_ GE209.out) | exact HB.out)) hb); clear HO224; clear BK209; clear HB; have HO224 := n0_; have BK209 := n1_; have HB := n2_; clear n0_ n1_ n2_; (try clear hb); (try clear hb2); (try clear hk); (try clear hi); have hcz28_0 : w27.cell? ⟨gb209, 0, none⟩ = some (.int .i64 a0_0) := (blk_cell BK209.out 0).trans rfl; have hcz28_1 : w27.cell? ⟨gb209, 1, none⟩ = some (.slice A0_1 l0_1.length c0_1) := (blk_cell BK209.out 1).trans rfl; have hfz28_0 := blk_frozen BK209.out 0; have hfz28_1 := blk_frozen BK209.out 1) | ((with_reducible refine gate_callee (f := 15) rfl ?_); refine goesL_ (some 63) rfl rfl Try.func15 (by kernel_rfl) rfl #[.int .i64 a0_0, .slice A0_1 l0_1.length c0_1, .slice Ao26 t222.length co26] rfl (by (try simp only [List.map_toArray, List.map_cons, List.map_nil]); first | done | rfl | (simp only [List.length_drop, List.length_take]; rfl)) ?_; (with_reducible refine (Ext.Restriction.calls kj3 a0_0 _ _ l0_1 _ _ t222 t228 t229 _ ?side1 ?side2 ?side3 ?side4 A19.out).mono ?_); (case side1 => repeat (first | exact (Kd.C_below HR0_1.out HB.out) | (with_reducible refine Kd.C_alloc ?_ _) | (with_reducible refine Kd.C_drewN ?_ _) | (with_reducible refine Kd.C_drew ?_))); (case side2 => exact HC0_1.out); (case side3 => repeat (first | exact (Kd.R_reads' HO224.out).2.2 | (with_reducible refine Kd.C_alloc ?_ _) | (with_reducible refine Kd.C_drewN ?_ _) | (with_reducible refine Kd.C_drew ?_))); (case side4 => exact (Kd.R_reads' HO224.out).2.1); rintro e w29 ⟨v230, rfl, ho0, hb⟩; refine ⟨_, rfl, ?_⟩; have n0_ := Aside0.mk (Kd.R_elder' (by (with_reducible repeat (first | apply Kd.R_alloc | apply Kd.R_drewN | apply Kd.R_drew)); exact HO224.out) (Kd.R_base ho0) hb); have n1_ := Aside0.mk (Kd.R_lower (Kd.R_new' ho0 (Kd.R_lt (by (with_reducible repeat (first | apply Kd.R_alloc | apply Kd.R_drewN | apply Kd.R_drew)); exact HO224.out))) (below_size (by repeat (first | (with_reducible first | exact HB.out | apply below_alloc | apply pw_below_drewN | apply below_drew1 | refine below_set ?_ GE209.out) | exact HB.out)))); have n2_ := Aside0.mk (blk_below (g := gb209) (o := .cells #[.int .i64 a0_0, .slice A0_1 l0_1.length c0_1] 33 (0, 0)) (by (with_reducible repeat (first | refine blk_drewN ?_ _ | refine blk_drew ?_ | refine blk_alloc ?_ _)); exact BK209.out) hb); have n3_ := Aside0.mk (below_step (by repeat (first | (with_reducible first | exact HB.out | apply below_alloc | apply pw_below_drewN | apply below_drew1 | refine below_set ?_ GE209.out) | exact HB.out)) hb); clear HO224; clear BK209; clear HB; have HO224 := n0_; have HO231 := n1_; have BK209 := n2_; have HB := n3_; clear n0_ n1_ n2_ n3_; (try clear hb); (try clear hb2); (try clear hk); (try clear hi); (try clear ho0); have hcz30_0 : w29.cell? ⟨gb209, 0, none⟩ = some (.int .i64 a0_0) := (blk_cell BK209.out 0).trans rfl; have hcz30_1 : w29.cell? ⟨gb209, 1, none⟩ = some (.slice A0_1 l0_1.length c0_1) := (blk_cell BK209.out 1).trans rfl; have hfz30_0 := blk_frozen BK209.out 0; have hfz30_1 := blk_frozen BK209.out 1) | ((with_reducible refine gate_callee (f := 16) rfl ?_); refine goesL_ (some 71) rfl rfl Try.func16 (by kernel_rfl) rfl #[.int .i64 a0_0, .slice A0_1 l0_1.length c0_1] rfl (by (try simp only [List.map_toArray, List.map_cons, List.map_nil]); first | done | rfl | (simp only [List.length_drop, List.length_take]; rfl)) ?_; (with_reducible refine (complex_H.calls kj3 a0_0 _ _ l0_1 t232 t233 _ ?side1 ?side2 A20.out).mono ?_); (case side1 => repeat (first | exact (Kd.C_below HR0_1.out HB.out) | (with_reducible refine Kd.C_alloc ?_ _) | (with_reducible refine Kd.C_drewN ?_ _) | (with_reducible refine Kd.C_drew ?_))); (case side2 => exact HC0_1.out); rintro e w31 ⟨v234, rfl, ho0, hb⟩; refine ⟨_, rfl, ?_⟩; have n0_ := Aside0.mk (Kd.R_elder' (by (with_reducible repeat (first | apply Kd.R_alloc | apply Kd.R_drewN | apply Kd.R_drew)); exact HO224.out) (Kd.R_base ho0) hb); have n1_ := Aside0.mk (Kd.R_elder' (by (with_reducible repeat (first | apply Kd.R_alloc | apply Kd.R_drewN | apply Kd.R_drew)); exact HO231.out) (Kd.R_base ho0) hb); have n2_ := Aside0.mk (Kd.R_lower (Kd.R_new' (Kd.R_new' ho0 (Kd.R_lt (by (with_reducible repeat (first | apply Kd.R_alloc | apply Kd.R_drewN | apply Kd.R_drew)); exact HO224.out))) (Kd.R_lt (by (with_reducible repeat (first | apply Kd.R_alloc | apply Kd.R_drewN | apply Kd.R_drew)); exact HO231.out))) (below_size (by repeat (first | (with_reducible first | exact HB.out | apply below_alloc | apply pw_below_drewN | apply below_drew1 | refine below_set ?_ GE209.out) | exact HB.out)))); have n3_ := Aside0.mk (blk_below (g := gb209) (o := .cells #[.int .i64 a0_0, .slice A0_1 l0_1.length c0_1] 33 (0, 0)) (by (with_reducible repeat (first | refine blk_drewN ?_ _ | refine blk_drew ?_ | refine blk_alloc ?_ _)); exact BK209.out) hb); have n4_ := Aside0.mk (below_step (by repeat (first | (with_reducible first | exact HB.out | apply below_alloc | apply pw_below_drewN | apply below_drew1 | refine below_set ?_ GE209.out) | exact HB.out)) hb); clear HO224; clear HO231; clear BK209; clear HB; have HO224 := n0_; have HO231 := n1_; have HO235 := n2_; have BK209 := n3_; have HB := n4_; clear n0_ n1_ n2_ n3_ n4_; (try clear hb); (try clear hb2); (try clear hk); (try clear hi); (try clear ho0); have hcz32_0 : w31.cell? ⟨gb209, 0, none⟩ = some (.int .i64 a0_0) := (blk_cell BK209.out 0).trans rfl; have hcz32_1 : w31.cell? ⟨gb209, 1, none⟩ = some (.slice A0_1 l0_1.length c0_1) := (blk_cell BK209.out 1).trans rfl; have hfz32_0 := blk_frozen BK209.out 0; have hfz32_1 := blk_frozen BK209.out 1) | ((with_reducible refine gate_callee (f := 17) rfl ?_); refine goesL_ (some 76) rfl rfl Try.func17 (by kernel_rfl) rfl #[.agg #[.int .i64 a0_0, .slice A0_1 l0_1.length c0_1]] rfl (by (try simp only [List.map_toArray, List.map_cons, List.map_nil]); first | done | rfl | (simp only [List.length_drop, List.length_take]; rfl)) ?_; (with_reducible refine (tutte_Polynomial.calls kj3 a0_0 _ _ l0_1 t236 t239 _ ?side1 ?side2 A21.out).mono ?_); (case side1 => repeat (first | exact (Kd.C_below HR0_1.out HB.out) | (with_reducible refine Kd.C_alloc ?_ _) | (with_reducible refine Kd.C_drewN ?_ _) | (with_reducible refine Kd.C_drew ?_))); (case side2 => exact HC0_1.out); rintro e w33 ⟨v237, rfl, ho0, hb⟩; refine ⟨_, rfl, ?_⟩; have n0_ := Aside0.mk (Kd.R_below (by (with_reducible repeat (first | apply Kd.R_alloc | apply Kd.R_drewN | apply Kd.R_drew)); exact HO224.out) hb); have n1_ := Aside0.mk (Kd.R_below (by (with_reducible repeat (first | apply Kd.R_alloc | apply Kd.R_drewN | apply Kd.R_drew)); exact HO231.out) hb); have n2_ := Aside0.mk (Kd.R_below (by (with_reducible repeat (first | apply Kd.R_alloc | apply Kd.R_drewN | apply Kd.R_drew)); exact HO235.out) hb); have n3_ := Aside0.mk (Kd.S_lower ho0 (below_size (by repeat (first | (with_reducible first | exact HB.out | apply below_alloc | apply pw_below_drewN | apply below_drew1 | refine below_set ?_ GE209.out) | exact HB.out)))); have n4_ := Aside0.mk (blk_below (g := gb209) (o := .cells #[.int .i64 a0_0, .slice A0_1 l0_1.length c0_1] 33 (0, 0)) (by (with_reducible repeat (first | refine blk_drewN ?_ _ | refine blk_drew ?_ | refine blk_alloc ?_ _)); exact BK209.out) hb); have n5_ := Aside0.mk (below_step (by repeat (first | (with_reducible first | exact HB.out | apply below_alloc | apply pw_below_drewN | apply below_drew1 | refine below_set ?_ GE209.out) | exact HB.out)) hb); clear HO224; clear HO231; clear HO235; clear BK209; clear HB; have HO224 := n0_; have HO231 := n1_; have HO235 := n2_; have HO238 := n3_; have BK209 := n4_; have HB := n5_; clear n0_ n1_ n2_ n3_ n4_ n5_; (try clear hb); (try clear hb2); (try clear hk); (try clear hi); (try clear ho0)))
          (try simp only [Act.put, List.setIfInBounds_toArray, List.set_cons_zero, List.set_cons_succ])
          go_cut [110] (fun v110 wc => ∃ (kq : Nat) (x110_21 : Bool), v110 = .bool x110_21 ∧ Aside0 (rotakeep_ComplexBjoerner.j1 kq t222 t228 t232 t236 x110_21 a0_0 l0_1 = some r) ∧ Aside0 (kq ≤ kj3) ∧ Aside0 (Kd.R (Kd.int .i64) 3 wc w.heap.size (fun k_ => some k_ ≠ (v230 : Value).ownBlock ∧ some k_ ≠ (v234 : Value).ownBlock) (.slice Ao26 t222.length co26) t222) ∧ Aside0 (Kd.R (Kd.int .i64) 3 wc w.heap.size (fun k_ => some k_ ≠ ((.slice Ao26 t222.length co26) : Value).ownBlock ∧ some k_ ≠ (v234 : Value).ownBlock) v230 t228) ∧ Aside0 (Kd.R (Kd.int .i64) 3 wc w.heap.size (fun k_ => some k_ ≠ ((.slice Ao26 t222.length co26) : Value).ownBlock ∧ some k_ ≠ (v230 : Value).ownBlock) v234 t232) ∧ Aside0 (Kd.S (Kd.slice 2 (Kd.int .i64)) 54 wc w.heap.size (fun _ => True) v237 t236) ∧ Aside0 (wc.heap[gb209]? = some (.cells #[.int .i64 a0_0, (.slice A0_1 l0_1.length c0_1)] 33 (0, 0))) ∧ Aside0 (Below w.heap.size w wc))
          case first =>
            have H := HC22.out
            clear HC22
            by_cases c34 : t227 = 0
            · rw [if_pos c34] at H
              have c34b0 : (t227 == 0) = true := beq_iff_eq.mpr c34
              have c34b1 : (t227 != 0) = false := bne_eq_false_iff_eq.mpr c34
              clear c34
              (first | rw [c34b0] | (simp only [i64_w, i32_w]; rw [c34b0]) | skip)
              by_cases c35 : t229 = 0
              · rw [if_pos c35] at H
                have c35b0 : (t229 == 0) = true := beq_iff_eq.mpr c35
                have c35b1 : (t229 != 0) = false := bne_eq_false_iff_eq.mpr c35
                clear c35
                by_cases c36 : t233 = 0
                · rw [if_pos c36] at H
                  have c36b0 : (t233 == 0) = true := beq_iff_eq.mpr c36
                  have c36b1 : (t233 != 0) = false := bne_eq_false_iff_eq.mpr c36
                  clear c36
                  by_cases c37 : t239 = 0
                  · rw [if_pos c37] at H
                    have c37b0 : (t239 == 0) = true := beq_iff_eq.mpr c37
                    have c37b1 : (t239 != 0) = false := bne_eq_false_iff_eq.mpr c37
                    clear c37
                    by_cases c38 : t226 = true
                    · subst c38
                      have H1 : (if (t228.length : Int) = (t222.length : Int) then (rotakeep_ComplexBjoerner.j1 kj3 t222 t228 t232 t236 ((t232.length : Int) != (t236.length : Int)) a0_0 l0_1) else (rotakeep_ComplexBjoerner.j1 kj3 t222 t228 t232 t236 true a0_0 l0_1)) = some r := by rw [if_pos rfl] at H; exact H
                      clear H
                      have H := H1
                      clear H1
                      by_cases c39 : (t228.length : Int) = (t222.length : Int)
                      · rw [if_pos c39] at H
                        have c39b0 : ((t228.length : Int) == (t222.length : Int)) = true := beq_iff_eq.mpr c39
                        have c39b1 : ((t228.length : Int) != (t222.length : Int)) = false := bne_eq_false_iff_eq.mpr c39
                        have c39b2 : (t228.length == t222.length) = true := by first | simpa using c39 | (simp at c39 ⊢; omega)
                        clear c39
                        have H' := Aside0.mk H
                        clear H
                        obtain ⟨Ao40, co40, eo40⟩ := Kd.R_slice HO231.out
                        subst eo40
                        obtain ⟨Ao41, co41, eo41⟩ := Kd.R_slice HO235.out
                        subst eo41
                        obtain ⟨Ao42, co42, eo42⟩ := Kd.S_slice HO238.out
                        subst eo42
                        go_wp2
                        go_meet
                        case rel => exact ⟨_, (((t232.length : Int) != (t236.length : Int))), (by first | rfl | (simp; done) | (simp [*]; done)), H', ⟨by have := HJ3.out; first | omega | exact Nat.le_refl _⟩, ⟨by (with_reducible repeat (first | apply Kd.R_alloc | apply Kd.R_drewN | apply Kd.R_drew)); exact Kd.R_mono HO224.out (fun _ hk => ⟨hk.1.2, hk.2⟩)⟩, ⟨by (with_reducible repeat (first | apply Kd.R_alloc | apply Kd.R_drewN | apply Kd.R_drew)); exact Kd.R_mono HO231.out (fun _ hk => ⟨hk.1.2, hk.2⟩)⟩, ⟨by (with_reducible repeat (first | apply Kd.R_alloc | apply Kd.R_drewN | apply Kd.R_drew)); exact Kd.R_mono HO235.out (fun _ hk => ⟨hk.1.2, hk.2⟩)⟩, ⟨by (with_reducible repeat (first | apply Kd.S_alloc | apply Kd.S_drewN | apply Kd.S_drew)); exact HO238.out⟩, ⟨by (with_reducible repeat (first | refine blk_drewN ?_ _ | refine blk_drew ?_ | refine blk_alloc ?_ _)); exact BK209.out⟩, ⟨by repeat (first | (with_reducible first | exact HB.out | apply below_alloc | apply pw_below_drewN | apply below_drew1 | refine below_set ?_ GE209.out) | exact HB.out)⟩⟩
                      · rw [if_neg c39] at H
                        have c39b0 : ((t228.length : Int) == (t222.length : Int)) = false := beq_eq_false_iff_ne.mpr c39
                        have c39b1 : ((t228.length : Int) != (t222.length : Int)) = true := bne_iff_ne.mpr c39
                        have c39b2 : (t228.length == t222.length) = false := by first | simpa using c39 | (simp at c39 ⊢; omega)
                        have H' := Aside0.mk H
                        clear H
                        obtain ⟨Ao43, co43, eo43⟩ := Kd.R_slice HO231.out
                        subst eo43
                        go_wp2
                        go_meet
                        case rel => exact ⟨_, (true), (by first | rfl | (simp; done) | (simp [*]; done)), H', ⟨by have := HJ3.out; first | omega | exact Nat.le_refl _⟩, ⟨by (with_reducible repeat (first | apply Kd.R_alloc | apply Kd.R_drewN | apply Kd.R_drew)); exact Kd.R_mono HO224.out (fun _ hk => ⟨hk.1.2, hk.2⟩)⟩, ⟨by (with_reducible repeat (first | apply Kd.R_alloc | apply Kd.R_drewN | apply Kd.R_drew)); exact Kd.R_mono HO231.out (fun _ hk => ⟨hk.1.2, hk.2⟩)⟩, ⟨by (with_reducible repeat (first | apply Kd.R_alloc | apply Kd.R_drewN | apply Kd.R_drew)); exact Kd.R_mono HO235.out (fun _ hk => ⟨hk.1.2, hk.2⟩)⟩, ⟨by (with_reducible repeat (first | apply Kd.S_alloc | apply Kd.S_drewN | apply Kd.S_drew)); exact HO238.out⟩, ⟨by (with_reducible repeat (first | refine blk_drewN ?_ _ | refine blk_drew ?_ | refine blk_alloc ?_ _)); exact BK209.out⟩, ⟨by repeat (first | (with_reducible first | exact HB.out | apply below_alloc | apply pw_below_drewN | apply below_drew1 | refine below_set ?_ GE209.out) | exact HB.out)⟩⟩
                    · replace c38 := Bool.eq_false_iff.mpr c38
                      subst c38
                      have H1 : (rotakeep_ComplexBjoerner.j1 kj3 t222 t228 t232 t236 true a0_0 l0_1) = some r := by rw [if_neg (show ¬ (false = true) by decide)] at H; exact H
                      clear H
                      have H := H1
                      clear H1
                      have H' := Aside0.mk H
                      clear H
                      go_wp2
                      go_meet
                      case rel => exact ⟨_, (true), (by first | rfl | (simp; done) | (simp [*]; done)), H', ⟨by have := HJ3.out; first | omega | exact Nat.le_refl _⟩, ⟨by (with_reducible repeat (first | apply Kd.R_alloc | apply Kd.R_drewN | apply Kd.R_drew)); exact Kd.R_mono HO224.out (fun _ hk => ⟨hk.1.2, hk.2⟩)⟩, ⟨by (with_reducible repeat (first | apply Kd.R_alloc | apply Kd.R_drewN | apply Kd.R_drew)); exact Kd.R_mono HO231.out (fun _ hk => ⟨hk.1.2, hk.2⟩)⟩, ⟨by (with_reducible repeat (first | apply Kd.R_alloc | apply Kd.R_drewN | apply Kd.R_drew)); exact Kd.R_mono HO235.out (fun _ hk => ⟨hk.1.2, hk.2⟩)⟩, ⟨by (with_reducible repeat (first | apply Kd.S_alloc | apply Kd.S_drewN | apply Kd.S_drew)); exact HO238.out⟩, ⟨by (with_reducible repeat (first | refine blk_drewN ?_ _ | refine blk_drew ?_ | refine blk_alloc ?_ _)); exact BK209.out⟩, ⟨by repeat (first | (with_reducible first | exact HB.out | apply below_alloc | apply pw_below_drewN | apply below_drew1 | refine below_set ?_ GE209.out) | exact HB.out)⟩⟩
                  · rw [if_neg c37] at H
                    have c37b0 : (t239 == 0) = false := beq_eq_false_iff_ne.mpr c37
                    have c37b1 : (t239 != 0) = true := bne_iff_ne.mpr c37
                    have H' := Aside0.mk H
                    clear H
                    go_wp2
                    go_meet
                    case rel => exact ⟨_, (true), (by first | rfl | (simp; done) | (simp [*]; done)), H', ⟨by have := HJ3.out; first | omega | exact Nat.le_refl _⟩, ⟨by (with_reducible repeat (first | apply Kd.R_alloc | apply Kd.R_drewN | apply Kd.R_drew)); exact Kd.R_mono HO224.out (fun _ hk => ⟨hk.1.2, hk.2⟩)⟩, ⟨by (with_reducible repeat (first | apply Kd.R_alloc | apply Kd.R_drewN | apply Kd.R_drew)); exact Kd.R_mono HO231.out (fun _ hk => ⟨hk.1.2, hk.2⟩)⟩, ⟨by (with_reducible repeat (first | apply Kd.R_alloc | apply Kd.R_drewN | apply Kd.R_drew)); exact Kd.R_mono HO235.out (fun _ hk => ⟨hk.1.2, hk.2⟩)⟩, ⟨by (with_reducible repeat (first | apply Kd.S_alloc | apply Kd.S_drewN | apply Kd.S_drew)); exact HO238.out⟩, ⟨by (with_reducible repeat (first | refine blk_drewN ?_ _ | refine blk_drew ?_ | refine blk_alloc ?_ _)); exact BK209.out⟩, ⟨by repeat (first | (with_reducible first | exact HB.out | apply below_alloc | apply pw_below_drewN | apply below_drew1 | refine below_set ?_ GE209.out) | exact HB.out)⟩⟩
                · rw [if_neg c36] at H
                  have c36b0 : (t233 == 0) = false := beq_eq_false_iff_ne.mpr c36
                  have c36b1 : (t233 != 0) = true := bne_iff_ne.mpr c36
                  have H' := Aside0.mk H
                  clear H
                  go_wp2
                  go_meet
                  case rel => exact ⟨_, (true), (by first | rfl | (simp; done) | (simp [*]; done)), H', ⟨by have := HJ3.out; first | omega | exact Nat.le_refl _⟩, ⟨by (with_reducible repeat (first | apply Kd.R_alloc | apply Kd.R_drewN | apply Kd.R_drew)); exact Kd.R_mono HO224.out (fun _ hk => ⟨hk.1.2, hk.2⟩)⟩, ⟨by (with_reducible repeat (first | apply Kd.R_alloc | apply Kd.R_drewN | apply Kd.R_drew)); exact Kd.R_mono HO231.out (fun _ hk => ⟨hk.1.2, hk.2⟩)⟩, ⟨by (with_reducible repeat (first | apply Kd.R_alloc | apply Kd.R_drewN | apply Kd.R_drew)); exact Kd.R_mono HO235.out (fun _ hk => ⟨hk.1.2, hk.2⟩)⟩, ⟨by (with_reducible repeat (first | apply Kd.S_alloc | apply Kd.S_drewN | apply Kd.S_drew)); exact HO238.out⟩, ⟨by (with_reducible repeat (first | refine blk_drewN ?_ _ | refine blk_drew ?_ | refine blk_alloc ?_ _)); exact BK209.out⟩, ⟨by repeat (first | (with_reducible first | exact HB.out | apply below_alloc | apply pw_below_drewN | apply below_drew1 | refine below_set ?_ GE209.out) | exact HB.out)⟩⟩
              · rw [if_neg c35] at H
                have c35b0 : (t229 == 0) = false := beq_eq_false_iff_ne.mpr c35
                have c35b1 : (t229 != 0) = true := bne_iff_ne.mpr c35
                have H' := Aside0.mk H
                clear H
                go_wp2
                go_meet
                case rel => exact ⟨_, (true), (by first | rfl | (simp; done) | (simp [*]; done)), H', ⟨by have := HJ3.out; first | omega | exact Nat.le_refl _⟩, ⟨by (with_reducible repeat (first | apply Kd.R_alloc | apply Kd.R_drewN | apply Kd.R_drew)); exact Kd.R_mono HO224.out (fun _ hk => ⟨hk.1.2, hk.2⟩)⟩, ⟨by (with_reducible repeat (first | apply Kd.R_alloc | apply Kd.R_drewN | apply Kd.R_drew)); exact Kd.R_mono HO231.out (fun _ hk => ⟨hk.1.2, hk.2⟩)⟩, ⟨by (with_reducible repeat (first | apply Kd.R_alloc | apply Kd.R_drewN | apply Kd.R_drew)); exact Kd.R_mono HO235.out (fun _ hk => ⟨hk.1.2, hk.2⟩)⟩, ⟨by (with_reducible repeat (first | apply Kd.S_alloc | apply Kd.S_drewN | apply Kd.S_drew)); exact HO238.out⟩, ⟨by (with_reducible repeat (first | refine blk_drewN ?_ _ | refine blk_drew ?_ | refine blk_alloc ?_ _)); exact BK209.out⟩, ⟨by repeat (first | (with_reducible first | exact HB.out | apply below_alloc | apply pw_below_drewN | apply below_drew1 | refine below_set ?_ GE209.out) | exact HB.out)⟩⟩
            · rw [if_neg c34] at H
              have c34b0 : (t227 == 0) = false := beq_eq_false_iff_ne.mpr c34
              have c34b1 : (t227 != 0) = true := bne_iff_ne.mpr c34
              (first | rw [c34b0] | (simp only [i64_w, i32_w]; rw [c34b0]) | skip)
              have H' := Aside0.mk H
              clear H
              go_wp2
              go_meet
              case rel => exact ⟨_, (true), (by first | rfl | (simp; done) | (simp [*]; done)), H', ⟨by have := HJ3.out; first | omega | exact Nat.le_refl _⟩, ⟨by (with_reducible repeat (first | apply Kd.R_alloc | apply Kd.R_drewN | apply Kd.R_drew)); exact Kd.R_mono HO224.out (fun _ hk => ⟨hk.1.2, hk.2⟩)⟩, ⟨by (with_reducible repeat (first | apply Kd.R_alloc | apply Kd.R_drewN | apply Kd.R_drew)); exact Kd.R_mono HO231.out (fun _ hk => ⟨hk.1.2, hk.2⟩)⟩, ⟨by (with_reducible repeat (first | apply Kd.R_alloc | apply Kd.R_drewN | apply Kd.R_drew)); exact Kd.R_mono HO235.out (fun _ hk => ⟨hk.1.2, hk.2⟩)⟩, ⟨by (with_reducible repeat (first | apply Kd.S_alloc | apply Kd.S_drewN | apply Kd.S_drew)); exact HO238.out⟩, ⟨by (with_reducible repeat (first | refine blk_drewN ?_ _ | refine blk_drew ?_ | refine blk_alloc ?_ _)); exact BK209.out⟩, ⟨by repeat (first | (with_reducible first | exact HB.out | apply below_alloc | apply pw_below_drewN | apply below_drew1 | refine below_set ?_ GE209.out) | exact HB.out)⟩⟩
          case rest =>
            clear HC22
            try clear c1
            try clear p2
            try clear c3
            try clear c4
            try clear c9
            try clear c9b0
            try clear c9b1
            try clear c11
            try clear c12
            try clear c14
            try clear c15
            try clear c16
            try clear c17
            try clear c17b0
            try clear c17b1
            try clear c34
            try clear c34b0
            try clear c34b1
            try clear c35
            try clear c35b0
            try clear c35b1
            try clear c36
            try clear c36b0
            try clear c36b1
            try clear c37
            try clear c37b0
            try clear c37b1
            try clear c38
            try clear c39
            try clear c39b0
            try clear c39b1
            try clear c39b2
            try clear hcz23_0
            try clear hcz23_1
            try clear hcz25_0
            try clear hcz25_1
            try clear hcz28_0
            try clear hcz28_1
            try clear hcz30_0
            try clear hcz30_1
            try clear hcz32_0
            try clear hcz32_1
            try clear hfz23_0
            try clear hfz23_1
            try clear hfz25_0
            try clear hfz25_1
            try clear hfz28_0
            try clear hfz28_1
            try clear hfz30_0
            try clear hfz30_1
            try clear hfz32_0
            try clear hfz32_1
            try clear p2
            obtain ⟨kq, x110_21, rfl, HA, HJ21, HO_5, HO_9, HO_11, HO_13, BK209, HB⟩ := hcut
            cases kq with
            | zero => exact absurd HA.out (by simp [rotakeep_ComplexBjoerner.j1])
            | succ kj21 =>
              have H := HA.out
              clear HA
              simp only [rotakeep_ComplexBjoerner.j1] at H
              by_cases c44 : x110_21 = true
              · subst c44
                have H1 : (some false) = some r := by rw [if_pos rfl] at H; exact H
                clear H
                have H := H1
                clear H1
                obtain rfl := Option.some.inj H
                go_wp2
                go_ret
                exact ⟨by first | rfl | (simp [errW_none, errW_some] <;> rfl) | (simp [*, errW_none, errW_some] <;> rfl), by repeat (first | (with_reducible first | exact HB.out | apply below_alloc | apply pw_below_drewN | apply below_drew1 | refine below_set ?_ GE209.out) | exact HB.out)⟩
              · replace c44 := Bool.eq_false_iff.mpr c44
                subst c44
                have H1 : (if 0 ≤ (t232.length : Int) then (if ((t232.length : Int) : Int).toNat ≤ 35184372088832 then (rotakeep_ComplexBjoerner.l0 kj21 t228 t232 t236 (List.replicate ((t232.length : Int) : Int).toNat 0) t222 (t222.length : Int) 0 a0_0 l0_1) else (none)) else (none)) = some r := by rw [if_neg (show ¬ (false = true) by decide)] at H; exact H
                clear H
                have H := H1
                clear H1
                by_cases c45 : 0 ≤ (t232.length : Int)
                · rw [if_pos c45] at H
                  have c45b0 := eq_true c45
                  have c45b1 : decide (0 ≤ (t232.length : Int)) = true := decide_eq_true c45
                  clear c45
                  by_cases c46 : ((t232.length : Int) : Int).toNat ≤ 35184372088832
                  · rw [if_pos c46] at H
                    have c46b0 := eq_true c46
                    have c46b1 : decide (((t232.length : Int) : Int).toNat ≤ 35184372088832) = true := decide_eq_true c46
                    clear c46
                    obtain ⟨y240, hy240⟩ : ∃ y_ : List Int, y_ = (List.replicate ((t232.length : Int) : Int).toNat 0) := ⟨_, rfl⟩
                    replace H : (rotakeep_ComplexBjoerner.l0 kj21 t228 t232 t236 y240 t222 (t222.length : Int) 0 a0_0 l0_1) = some r := by first | (rw [hy240]; with_reducible exact H) | (have H2_ := (Option.bind_some _ _).symm.trans H; rw [hy240]; with_reducible exact H2_) | (have H2_ := (Option.bind_some _ _).symm.trans H; with_reducible exact H2_) | with_reducible exact H | (rw [hy240]; exact H) | exact H
                    have Ny240 := Aside0.mk hy240
                    clear hy240
                    have H' := Aside0.mk H
                    clear H
                    obtain ⟨Ao47, co47, eo47⟩ := Kd.R_slice HO_11.out
                    subst eo47
                    go_wp2_with (first | ((with_reducible refine gate_dst (N := 113) rfl ?_); (try (refine gate_guard (by rfl) ?_; dsimp only)); refine Kd.R_make (Kd.int .i64) _ 3 rfl (N := 113) rfl 31 _ _ rfl (t232.length : Int) rfl rfl Try.underlying31 (.int .i64 0) 8 info3 rfl (by decide) (by omega) 0 (ok := fun _ => True) (okp := fun _ => True) rfl (fun _ hk => hk) trivial (of_decide_eq_true (by first | (with_reducible assumption) | assumption)) (Nat.le_trans (Nat.mul_le_mul_right _ (of_decide_eq_true (by first | (with_reducible assumption) | assumption) : (t232.length : Int).toNat ≤ 35184372088832)) (by omega)) (Below.refl _ _) (Nat.le_refl _) ?_; intro v241 w48 ho49 hb hg_ hnew_; clear hg_ hnew_; (first | rw [← Ny240.out] at ho49 | (simp only [Int.reduceToNat] at ho49; rw [← Ny240.out] at ho49)); have n0_ := Aside0.mk (Kd.R_elder' (by (with_reducible repeat (first | apply Kd.R_alloc | apply Kd.R_drewN | apply Kd.R_drew)); exact HO_5.out) (Kd.R_base ho49) hb); have n1_ := Aside0.mk (Kd.R_elder' (by (with_reducible repeat (first | apply Kd.R_alloc | apply Kd.R_drewN | apply Kd.R_drew)); exact HO_9.out) (Kd.R_base ho49) hb); have n2_ := Aside0.mk (Kd.R_elder' (by (with_reducible repeat (first | apply Kd.R_alloc | apply Kd.R_drewN | apply Kd.R_drew)); exact HO_11.out) (Kd.R_base ho49) hb); have n3_ := Aside0.mk (Kd.S_below (by (with_reducible repeat (first | apply Kd.S_alloc | apply Kd.S_drewN | apply Kd.S_drew)); exact HO_13.out) hb); have n4_ := Aside0.mk (Kd.R_lower (Kd.R_new' (Kd.R_new' (Kd.R_new' ho49 (Kd.R_lt (by (with_reducible repeat (first | apply Kd.R_alloc | apply Kd.R_drewN | apply Kd.R_drew)); exact HO_5.out))) (Kd.R_lt (by (with_reducible repeat (first | apply Kd.R_alloc | apply Kd.R_drewN | apply Kd.R_drew)); exact HO_9.out))) (Kd.R_lt (by (with_reducible repeat (first | apply Kd.R_alloc | apply Kd.R_drewN | apply Kd.R_drew)); exact HO_11.out))) (below_size (by repeat (first | (with_reducible first | exact HB.out | apply below_alloc | apply pw_below_drewN | apply below_drew1 | refine below_set ?_ GE209.out) | exact HB.out)))); have n5_ := Aside0.mk (blk_below (g := gb209) (o := .cells #[.int .i64 a0_0, .slice A0_1 l0_1.length c0_1] 33 (0, 0)) (by (with_reducible repeat (first | refine blk_drewN ?_ _ | refine blk_drew ?_ | refine blk_alloc ?_ _)); exact BK209.out) hb); have n6_ := Aside0.mk (below_step (by repeat (first | (with_reducible first | exact HB.out | apply below_alloc | apply pw_below_drewN | apply below_drew1 | refine below_set ?_ GE209.out) | exact HB.out)) hb); clear HO_5; clear HO_9; clear HO_11; clear HO_13; clear BK209; clear HB; have HO_5 := n0_; have HO_9 := n1_; have HO_11 := n2_; have HO_13 := n3_; have HO242 := n4_; have BK209 := n5_; have HB := n6_; clear n0_ n1_ n2_ n3_ n4_ n5_ n6_; clear hb ho49))
                    go_loopg [116] kj21 (fun kq v116 w' => ∃ (x15_3 : List Int) (x116_3 : Int), v116 = .int .i64 x116_3 ∧ Aside0 (rotakeep_ComplexBjoerner.l0 kq t228 t232 t236 x15_3 t222 (t222.length : Int) x116_3 a0_0 l0_1 = some r) ∧ Aside0 (kq ≤ kj21) ∧ Aside0 (Kd.R (Kd.int .i64) 3 w' w.heap.size (fun k_ => some k_ ≠ ((.slice Ao47 t232.length co47) : Value).ownBlock ∧ some k_ ≠ (v241 : Value).ownBlock ∧ some k_ ≠ ((.slice Ao26 t222.length co26) : Value).ownBlock) v230 t228) ∧ Aside0 (Kd.R (Kd.int .i64) 3 w' w.heap.size (fun k_ => some k_ ≠ (v230 : Value).ownBlock ∧ some k_ ≠ (v241 : Value).ownBlock ∧ some k_ ≠ ((.slice Ao26 t222.length co26) : Value).ownBlock) (.slice Ao47 t232.length co47) t232) ∧ Aside0 (Kd.S (Kd.slice 2 (Kd.int .i64)) 54 w' w.heap.size (fun _ => True) v237 t236) ∧ Aside0 (Kd.R (Kd.int .i64) 3 w' w.heap.size (fun k_ => some k_ ≠ (v230 : Value).ownBlock ∧ some k_ ≠ ((.slice Ao47 t232.length co47) : Value).ownBlock ∧ some k_ ≠ ((.slice Ao26 t222.length co26) : Value).ownBlock) v241 x15_3) ∧ Aside0 (Kd.R (Kd.int .i64) 3 w' w.heap.size (fun k_ => some k_ ≠ (v230 : Value).ownBlock ∧ some k_ ≠ ((.slice Ao47 t232.length co47) : Value).ownBlock ∧ some k_ ≠ (v241 : Value).ownBlock) (.slice Ao26 t222.length co26) t222) ∧ Aside0 (w'.heap[gb209]? = some (.cells #[.int .i64 a0_0, (.slice A0_1 l0_1.length c0_1)] 33 (0, 0))) ∧ Aside0 (Below w.heap.size w w'))
                    case atStart => exact ⟨(y240), (0), (by first | rfl | (simp; done) | (simp [*]; done)), H', ⟨Nat.le_refl _⟩, ⟨by (with_reducible repeat (first | apply Kd.R_alloc | apply Kd.R_drewN | apply Kd.R_drew)); exact Kd.R_mono HO_9.out (fun _ hk => ⟨hk.1.2, ⟨hk.2, hk.1.1⟩⟩)⟩, ⟨by (with_reducible repeat (first | apply Kd.R_alloc | apply Kd.R_drewN | apply Kd.R_drew)); exact Kd.R_mono HO_11.out (fun _ hk => ⟨hk.1.2, ⟨hk.2, hk.1.1⟩⟩)⟩, ⟨by (with_reducible repeat (first | apply Kd.S_alloc | apply Kd.S_drewN | apply Kd.S_drew)); exact HO_13.out⟩, ⟨by (with_reducible repeat (first | apply Kd.R_alloc | apply Kd.R_drewN | apply Kd.R_drew)); exact Kd.R_mono HO242.out (fun _ hk => ⟨hk.1.2, ⟨hk.2, hk.1.1.2⟩⟩)⟩, ⟨by (with_reducible repeat (first | apply Kd.R_alloc | apply Kd.R_drewN | apply Kd.R_drew)); exact Kd.R_mono HO_5.out (fun _ hk => ⟨hk.1.1, ⟨hk.1.2, hk.2⟩⟩)⟩, ⟨by (with_reducible repeat (first | refine blk_drewN ?_ _ | refine blk_drew ?_ | refine blk_alloc ?_ _)); exact BK209.out⟩, ⟨by repeat (first | (with_reducible first | exact HB.out | apply below_alloc | apply pw_below_drewN | apply below_drew1 | refine below_set ?_ GE209.out) | exact HB.out)⟩⟩
                    case round =>
                      clear H'
                      try clear c1
                      try clear p2
                      try clear c3
                      try clear c4
                      try clear c9
                      try clear c9b0
                      try clear c9b1
                      try clear c11
                      try clear c12
                      try clear c14
                      try clear c15
                      try clear c16
                      try clear c17
                      try clear c17b0
                      try clear c17b1
                      try clear c34
                      try clear c34b0
                      try clear c34b1
                      try clear c35
                      try clear c35b0
                      try clear c35b1
                      try clear c36
                      try clear c36b0
                      try clear c36b1
                      try clear c37
                      try clear c37b0
                      try clear c37b1
                      try clear c38
                      try clear c39
                      try clear c39b0
                      try clear c39b1
                      try clear c39b2
                      try clear c44
                      try clear c45
                      try clear c45b0
                      try clear c45b1
                      try clear c46
                      try clear c46b0
                      try clear c46b1
                      try clear hcz23_0
                      try clear hcz23_1
                      try clear hcz25_0
                      try clear hcz25_1
                      try clear hcz28_0
                      try clear hcz28_1
                      try clear hcz30_0
                      try clear hcz30_1
                      try clear hcz32_0
                      try clear hcz32_1
                      try clear hfz23_0
                      try clear hfz23_1
                      try clear hfz25_0
                      try clear hfz25_1
                      try clear hfz28_0
                      try clear hfz28_1
                      try clear hfz30_0
                      try clear hfz30_1
                      try clear hfz32_0
                      try clear hfz32_1
                      try clear p2
                      obtain ⟨x15_3, x116_3, rfl, HA, HK3, HO_9, HO_11, HO_13, HO_15, HO_114, BK209, HB⟩ := hrel
                      cases gk with
                      | zero => exact absurd HA.out (by simp [rotakeep_ComplexBjoerner.l0])
                      | succ k3 =>
                        have H := HA.out
                        clear HA
                        simp only [rotakeep_ComplexBjoerner.l0] at H
                        by_cases c50 : x116_3 < (t222.length : Int)
                        · rw [if_pos c50] at H
                          have c50b0 : decide (x116_3 < (t222.length : Int)) = true := decide_eq_true c50
                          clear c50
                          by_cases c51 : 0 ≤ x116_3
                          · rw [if_pos c51] at H
                            have c51b0 : decide (0 ≤ x116_3) = true := decide_eq_true c51
                            clear c51
                            by_cases c52 : x116_3 < (t222.length : Int)
                            · rw [if_pos c52] at H
                              have c52b0 : decide (x116_3 < (t222.length : Int)) = true := decide_eq_true c52
                              clear c52
                              replace H := Option.bind_eq_some_iff.mp H
                              obtain ⟨⟨t244, t245, t246⟩, A530, H⟩ := H
                              replace H : (if t246 = 0 then (if x116_3 < (t228.length : Int) then (if (rd t228 x116_3) = (Go.bits .andNot .i64 (rd t222 x116_3) t244) then ((rotaref_Size.f k3 (rd t228 x116_3)).bind fun t249 => (if 0 ≤ t249 then (if t249 < (x15_3.length : Int) then (rotakeep_ComplexBjoerner.l0 k3 t228 t232 t236 (x15_3.set (t249 : Int).toNat (wrap64 ((rd x15_3 t249) + 1))) t222 (t222.length : Int) (wrap64 (x116_3 + 1)) a0_0 l0_1) else (none)) else (none))) else (some false)) else (none)) else (some false)) = some r := H
                              have A53 := Aside0.mk A530
                              clear A530
                              by_cases c54 : t246 = 0
                              · rw [if_pos c54] at H
                                have c54b0 : (t246 == 0) = true := beq_iff_eq.mpr c54
                                have c54b1 : (t246 != 0) = false := bne_eq_false_iff_eq.mpr c54
                                clear c54
                                by_cases c55 : x116_3 < (t228.length : Int)
                                · rw [if_pos c55] at H
                                  have c55b0 : decide (x116_3 < (t228.length : Int)) = true := decide_eq_true c55
                                  clear c55
                                  by_cases c56 : (rd t228 x116_3) = (Go.bits .andNot .i64 (rd t222 x116_3) t244)
                                  · rw [if_pos c56] at H
                                    have c56b0 : ((rd t228 x116_3) == (Go.bits .andNot .i64 (rd t222 x116_3) t244)) = true := beq_iff_eq.mpr c56
                                    have c56b1 : ((rd t228 x116_3) != (Go.bits .andNot .i64 (rd t222 x116_3) t244)) = false := bne_eq_false_iff_eq.mpr c56
                                    clear c56
                                    replace H := Option.bind_eq_some_iff.mp H
                                    obtain ⟨t249, A570, H⟩ := H
                                    replace H : (if 0 ≤ t249 then (if t249 < (x15_3.length : Int) then (rotakeep_ComplexBjoerner.l0 k3 t228 t232 t236 (x15_3.set (t249 : Int).toNat (wrap64 ((rd x15_3 t249) + 1))) t222 (t222.length : Int) (wrap64 (x116_3 + 1)) a0_0 l0_1) else (none)) else (none)) = some r := H
                                    have A57 := Aside0.mk A570
                                    clear A570
                                    by_cases c58 : 0 ≤ t249
                                    · rw [if_pos c58] at H
                                      have c58b0 : decide (0 ≤ t249) = true := decide_eq_true c58
                                      clear c58
                                      by_cases c59 : t249 < (x15_3.length : Int)
                                      · rw [if_pos c59] at H
                                        have c59b0 : decide (t249 < (x15_3.length : Int)) = true := decide_eq_true c59
                                        clear c59
                                        obtain ⟨y251, hy251⟩ : ∃ y_ : List Int, y_ = (x15_3.set (t249 : Int).toNat (wrap64 ((rd x15_3 t249) + 1))) := ⟨_, rfl⟩
                                        replace H : (rotakeep_ComplexBjoerner.l0 k3 t228 t232 t236 y251 t222 (t222.length : Int) (wrap64 (x116_3 + 1)) a0_0 l0_1) = some r := by first | (rw [hy251]; with_reducible exact H) | (have H2_ := (Option.bind_some _ _).symm.trans H; rw [hy251]; with_reducible exact H2_) | (have H2_ := (Option.bind_some _ _).symm.trans H; with_reducible exact H2_) | with_reducible exact H | (rw [hy251]; exact H) | exact H
                                        have Ny251 := Aside0.mk hy251
                                        clear hy251
                                        have H' := Aside0.mk H
                                        clear H
                                        have p243 : 0 ≤ (x116_3 : Int) := of_decide_eq_true (by first | (with_reducible assumption) | assumption)
                                        have q243 : x116_3 < (t222.length : Int) := of_decide_eq_true (by first | (with_reducible assumption) | assumption)
                                        obtain ⟨ad243, e243, hx243_0⟩ := Kd.at_int (Kd.R_reads' HO_114.out).2.2 x116_3 p243 q243
                                        cases e243
                                        replace p243 := eq_true p243
                                        replace q243 := eq_true q243
                                        have hcz61_0 : wr.cell? ⟨gb209, 0, none⟩ = some (.int .i64 a0_0) := (blk_cell BK209.out 0).trans rfl
                                        have hcz61_1 : wr.cell? ⟨gb209, 1, none⟩ = some (.slice A0_1 l0_1.length c0_1) := (blk_cell BK209.out 1).trans rfl
                                        have hfz61_0 := blk_frozen BK209.out 0
                                        have hfz61_1 := blk_frozen BK209.out 1
                                        go_wp2_with (first | ((with_reducible refine gate_callee (f := 18) rfl ?_); refine goesL_ (some 124) rfl rfl Try.func18 (by kernel_rfl) rfl #[.agg #[.int .i64 a0_0, .slice A0_1 l0_1.length c0_1], .int .i64 (rd t222 x116_3)] rfl (by (try simp only [List.map_toArray, List.map_cons, List.map_nil]); first | done | rfl | (simp only [List.length_drop, List.length_take]; rfl)) ?_; (with_reducible refine (Ext.Activities.calls k3 a0_0 _ _ l0_1 (rd t222 x116_3) t244 t245 t246 _ ?side1 ?side2 A53.out).mono ?_); (case side1 => repeat (first | exact (Kd.C_below HR0_1.out HB.out) | (with_reducible refine Kd.C_alloc ?_ _) | (with_reducible refine Kd.C_drewN ?_ _) | (with_reducible refine Kd.C_drew ?_))); (case side2 => exact HC0_1.out); rintro e w62 ⟨rfl, hb⟩; refine ⟨_, rfl, ?_⟩; have n0_ := Aside0.mk (Kd.R_below (by (with_reducible repeat (first | apply Kd.R_alloc | apply Kd.R_drewN | apply Kd.R_drew)); exact HO_9.out) hb); have n1_ := Aside0.mk (Kd.R_below (by (with_reducible repeat (first | apply Kd.R_alloc | apply Kd.R_drewN | apply Kd.R_drew)); exact HO_11.out) hb); have n2_ := Aside0.mk (Kd.S_below (by (with_reducible repeat (first | apply Kd.S_alloc | apply Kd.S_drewN | apply Kd.S_drew)); exact HO_13.out) hb); have n3_ := Aside0.mk (Kd.R_below (by (with_reducible repeat (first | apply Kd.R_alloc | apply Kd.R_drewN | apply Kd.R_drew)); exact HO_15.out) hb); have n4_ := Aside0.mk (Kd.R_below (by (with_reducible repeat (first | apply Kd.R_alloc | apply Kd.R_drewN | apply Kd.R_drew)); exact HO_114.out) hb); have n5_ := Aside0.mk (blk_below (g := gb209) (o := .cells #[.int .i64 a0_0, .slice A0_1 l0_1.length c0_1] 33 (0, 0)) (by (with_reducible repeat (first | refine blk_drewN ?_ _ | refine blk_drew ?_ | refine blk_alloc ?_ _)); exact BK209.out) hb); have n6_ := Aside0.mk (below_step (by repeat (first | (with_reducible first | exact HB.out | apply below_alloc | apply pw_below_drewN | apply below_drew1 | refine below_set ?_ GE209.out) | exact HB.out)) hb); clear HO_9; clear HO_11; clear HO_13; clear HO_15; clear HO_114; clear BK209; clear HB; have HO_9 := n0_; have HO_11 := n1_; have HO_13 := n2_; have HO_15 := n3_; have HO_114 := n4_; have BK209 := n5_; have HB := n6_; clear n0_ n1_ n2_ n3_ n4_ n5_ n6_; (try clear hb); (try clear hb2); (try clear hk); (try clear hi); obtain ⟨Ao63, co63, eo63⟩ := Kd.R_slice HO_9.out; subst eo63; have p247 : 0 ≤ (x116_3 : Int) := of_decide_eq_true (by first | (with_reducible assumption) | assumption); have q247 : x116_3 < (t228.length : Int) := of_decide_eq_true (by first | (with_reducible assumption) | assumption); obtain ⟨ad247, e247, hx247_0⟩ := Kd.at_int (Kd.R_reads' HO_9.out).2.2 x116_3 p247 q247; cases e247; replace p247 := eq_true p247; replace q247 := eq_true q247; have p248 : 0 ≤ (x116_3 : Int) := of_decide_eq_true (by first | (with_reducible assumption) | assumption); have q248 : x116_3 < (t228.length : Int) := of_decide_eq_true (by first | (with_reducible assumption) | assumption); obtain ⟨ad248, e248, hx248_0⟩ := Kd.at_int (Kd.R_reads' HO_9.out).2.2 x116_3 p248 q248; obtain rfl : ad247 = ad248 := (by injection e248); replace p248 := eq_true p248; replace q248 := eq_true q248) | ((with_reducible refine gate_callee (f := 19) rfl ?_); refine goesL_ (some 145) rfl rfl Try.func19 (by kernel_rfl) rfl #[.int .i64 (rd t228 x116_3)] rfl (by (try simp only [List.map_toArray, List.map_cons, List.map_nil]); first | done | rfl | (simp only [List.length_drop, List.length_take]; rfl)) ?_; (with_reducible refine (rotaref_Size.calls k3 (rd t228 x116_3) t249 _ A57.out).mono ?_); rintro e w64 ⟨rfl, hb⟩; refine ⟨_, rfl, ?_⟩; have n0_ := Aside0.mk (Kd.R_below (by (with_reducible repeat (first | apply Kd.R_alloc | apply Kd.R_drewN | apply Kd.R_drew)); exact HO_9.out) hb); have n1_ := Aside0.mk (Kd.R_below (by (with_reducible repeat (first | apply Kd.R_alloc | apply Kd.R_drewN | apply Kd.R_drew)); exact HO_11.out) hb); have n2_ := Aside0.mk (Kd.S_below (by (with_reducible repeat (first | apply Kd.S_alloc | apply Kd.S_drewN | apply Kd.S_drew)); exact HO_13.out) hb); have n3_ := Aside0.mk (Kd.R_below (by (with_reducible repeat (first | apply Kd.R_alloc | apply Kd.R_drewN | apply Kd.R_drew)); exact HO_15.out) hb); have n4_ := Aside0.mk (Kd.R_below (by (with_reducible repeat (first | apply Kd.R_alloc | apply Kd.R_drewN | apply Kd.R_drew)); exact HO_114.out) hb); have n5_ := Aside0.mk (blk_below (g := gb209) (o := .cells #[.int .i64 a0_0, .slice A0_1 l0_1.length c0_1] 33 (0, 0)) (by (with_reducible repeat (first | refine blk_drewN ?_ _ | refine blk_drew ?_ | refine blk_alloc ?_ _)); exact BK209.out) hb); have n6_ := Aside0.mk (below_step (by repeat (first | (with_reducible first | exact HB.out | apply below_alloc | apply pw_below_drewN | apply below_drew1 | refine below_set ?_ GE209.out) | exact HB.out)) hb); clear HO_9; clear HO_11; clear HO_13; clear HO_15; clear HO_114; clear BK209; clear HB; have HO_9 := n0_; have HO_11 := n1_; have HO_13 := n2_; have HO_15 := n3_; have HO_114 := n4_; have BK209 := n5_; have HB := n6_; clear n0_ n1_ n2_ n3_ n4_ n5_ n6_; (try clear hb); (try clear hb2); (try clear hk); (try clear hi); obtain ⟨Ao65, co65, eo65⟩ := Kd.R_slice HO_15.out; subst eo65; have p250 : 0 ≤ (t249 : Int) := of_decide_eq_true (by first | (with_reducible assumption) | assumption); have q250 : t249 < (x15_3.length : Int) := of_decide_eq_true (by first | (with_reducible assumption) | assumption); obtain ⟨ad250, e250, hx250_0⟩ := Kd.at_int (Kd.R_reads' HO_15.out).2.2 t249 p250 q250; cases e250; replace p250 := eq_true p250; replace q250 := eq_true q250; have p60 : 0 ≤ (t249 : Int) := of_decide_eq_true (by first | (with_reducible assumption) | assumption); have q60 : (t249 : Int) < ((x15_3.length : Int) : Int) := of_decide_eq_true (by first | (with_reducible assumption) | assumption); obtain ⟨go60, co60, eo60, gb60, gl60, cl60, HG60⟩ := Kd.R_form HO_15.out (by omega); (first | cases eo60 | (injection eo60 with ea_ en_ ec_; (first | subst ea_ | (injection ea_ with ea_; subst ea_)); subst ec_; clear en_)); have GB60 := Aside0.mk gb60; have GG60 := Aside0.mk HG60; clear gb60 gl60 HG60; (first | simp only [add_plain] at hx250_0 | skip); obtain ⟨hx60_0, hf60_0⟩ := Kd.R_celln 0 HO_15.out (t249 : Int) p60 q60; replace p60 := eq_true p60; replace q60 := eq_true q60; obtain ⟨hy66_, hz66_⟩ := Kd.R_celln 0 HO_15.out (t249 : Int) (of_decide_eq_true (by first | (with_reducible assumption) | assumption)) (of_decide_eq_true (by first | (with_reducible assumption) | assumption)); have HP66 := Kd.R_putg HO_15.out (t249 : Int) (wrap64 ((rd x15_3 t249) + 1))) | ((with_reducible refine gate_store (t := 3) (p := 149) rfl ?_); refine store_event (t := 3) (p := 149) (v := ?vo_w67) (w1 := (w64.setCell ⟨go60, (t249 : Int).toNat, none⟩ (.int .i64 (wrap64 ((rd x15_3 t249) + 1))))) ?hg ?ho ?hn ?hr ?_; (case ho => rfl); (case hg => rfl); (case hn => rfl); (case hr => first | (go_simp; done) | (go_simp; rfl)); intro w67 hw; have hg : w64.grownBy w67 (some go60) := (by rw [hw]; exact HP66.2); have hp_ : Kd.R (Kd.int .i64) 3 w67 w.heap.size (fun k_ => some k_ ≠ (.slice (some ad247) t228.length co63 : Value).ownBlock ∧ some k_ ≠ (.slice Ao47 t232.length co47 : Value).ownBlock ∧ some k_ ≠ (.slice (some ad243) t222.length co26 : Value).ownBlock) (.slice (some ⟨go60, 0, none⟩) x15_3.length co65) y251 := (by rw [hw, Ny251.out]; exact HP66.1); clear HP66; have n0_ := Aside0.mk (Kd.R_after (v := (.slice (some ⟨go60, 0, none⟩) x15_3.length co65)) (v1 := (.slice (some ⟨go60, 0, none⟩) x15_3.length co65)) (ok := (fun k_ => some k_ ≠ (.slice Ao47 t232.length co47 : Value).ownBlock ∧ some k_ ≠ (.slice (some ad243) t222.length co26 : Value).ownBlock)) (by (with_reducible repeat (first | apply Kd.R_alloc | apply Kd.R_drewN | apply Kd.R_drew)); exact Kd.R_mono HO_9.out (fun _ hk => ⟨⟨hk.1, hk.2.2⟩, hk.2.1⟩)) hg (.inl rfl)); have n1_ := Aside0.mk (Kd.R_after (v := (.slice (some ⟨go60, 0, none⟩) x15_3.length co65)) (v1 := (.slice (some ⟨go60, 0, none⟩) x15_3.length co65)) (ok := (fun k_ => some k_ ≠ (.slice (some ad247) t228.length co63 : Value).ownBlock ∧ some k_ ≠ (.slice (some ad243) t222.length co26 : Value).ownBlock)) (by (with_reducible repeat (first | apply Kd.R_alloc | apply Kd.R_drewN | apply Kd.R_drew)); exact Kd.R_mono HO_11.out (fun _ hk => ⟨⟨hk.1, hk.2.2⟩, hk.2.1⟩)) hg (.inl rfl)); have n2_ := Aside0.mk (Kd.S_over' (v := (.slice (some ⟨go60, 0, none⟩) x15_3.length co65)) (by (with_reducible repeat (first | apply Kd.S_alloc | apply Kd.S_drewN | apply Kd.S_drew)); exact HO_13.out) (Kd.R_typed HO_15.out) (by decide) hg); have n3_ := Aside0.mk (hp_); have n4_ := Aside0.mk (Kd.R_after (v := (.slice (some ⟨go60, 0, none⟩) x15_3.length co65)) (v1 := (.slice (some ⟨go60, 0, none⟩) x15_3.length co65)) (ok := (fun k_ => some k_ ≠ (.slice (some ad247) t228.length co63 : Value).ownBlock ∧ some k_ ≠ (.slice Ao47 t232.length co47 : Value).ownBlock)) (by (with_reducible repeat (first | apply Kd.R_alloc | apply Kd.R_drewN | apply Kd.R_drew)); exact Kd.R_mono HO_114.out (fun _ hk => ⟨⟨hk.1, hk.2.1⟩, hk.2.2⟩)) hg (.inl rfl)); have n5_ := Aside0.mk (blk_grown (g := gb209) (o := .cells #[.int .i64 a0_0, .slice A0_1 l0_1.length c0_1] 33 (0, 0)) (by (with_reducible repeat (first | refine blk_drewN ?_ _ | refine blk_drew ?_ | refine blk_alloc ?_ _)); exact BK209.out) hg (Kd.R_ne HO_15.out BK209.out (by decide))); have n6_ := Aside0.mk ((by rw [hw]; exact below_set (HB.out) GB60.out : Below w.heap.size w w67)); clear HO_9; clear HO_11; clear HO_13; clear HO_15; clear HO_114; clear BK209; clear HB; have HO_9 := n0_; have HO_11 := n1_; have HO_13 := n2_; have HO_15 := n3_; have HO_114 := n4_; have BK209 := n5_; have HB := n6_; clear n0_ n1_ n2_ n3_ n4_ n5_ n6_; clear hg hw hp_))
                                        go_roundg k3
                                        case measure => have := HJ3.out; have := HJ21.out; have := HK3.out; omega
                                        case rel => exact ⟨(y251), (wrap64 (x116_3 + 1)), (by first | rfl | (simp; done) | (simp [*]; done)), H', ⟨by have := HJ3.out; have := HJ21.out; have := HK3.out; omega⟩, ⟨by (with_reducible repeat (first | apply Kd.R_alloc | apply Kd.R_drewN | apply Kd.R_drew)); exact Kd.R_mono HO_9.out (fun _ hk => ⟨hk.1.1, ⟨hk.2, hk.1.2⟩⟩)⟩, ⟨by (with_reducible repeat (first | apply Kd.R_alloc | apply Kd.R_drewN | apply Kd.R_drew)); exact Kd.R_mono HO_11.out (fun _ hk => ⟨hk.1.1, ⟨hk.2, hk.1.2⟩⟩)⟩, ⟨by (with_reducible repeat (first | apply Kd.S_alloc | apply Kd.S_drewN | apply Kd.S_drew)); exact HO_13.out⟩, ⟨by (with_reducible repeat (first | apply Kd.R_alloc | apply Kd.R_drewN | apply Kd.R_drew)); exact HO_15.out⟩, ⟨by (with_reducible repeat (first | apply Kd.R_alloc | apply Kd.R_drewN | apply Kd.R_drew)); exact Kd.R_mono HO_114.out (fun _ hk => ⟨hk.1.1, ⟨hk.1.2, hk.2⟩⟩)⟩, ⟨by (with_reducible repeat (first | refine blk_drewN ?_ _ | refine blk_drew ?_ | refine blk_alloc ?_ _)); exact BK209.out⟩, ⟨by repeat (first | (with_reducible first | exact HB.out | apply below_alloc | apply pw_below_drewN | apply below_drew1 | refine below_set ?_ GE209.out) | exact HB.out)⟩⟩
                                      · rw [if_neg c59] at H
                                        exact absurd H (by simp)
                                    · rw [if_neg c58] at H
                                      exact absurd H (by simp)
                                  · rw [if_neg c56] at H
                                    have c56b0 : ((rd t228 x116_3) == (Go.bits .andNot .i64 (rd t222 x116_3) t244)) = false := beq_eq_false_iff_ne.mpr c56
                                    have c56b1 : ((rd t228 x116_3) != (Go.bits .andNot .i64 (rd t222 x116_3) t244)) = true := bne_iff_ne.mpr c56
                                    obtain rfl := Option.some.inj H
                                    have p243 : 0 ≤ (x116_3 : Int) := of_decide_eq_true (by first | (with_reducible assumption) | assumption)
                                    have q243 : x116_3 < (t222.length : Int) := of_decide_eq_true (by first | (with_reducible assumption) | assumption)
                                    obtain ⟨ad243, e243, hx243_0⟩ := Kd.at_int (Kd.R_reads' HO_114.out).2.2 x116_3 p243 q243
                                    cases e243
                                    replace p243 := eq_true p243
                                    replace q243 := eq_true q243
                                    have hcz68_0 : wr.cell? ⟨gb209, 0, none⟩ = some (.int .i64 a0_0) := (blk_cell BK209.out 0).trans rfl
                                    have hcz68_1 : wr.cell? ⟨gb209, 1, none⟩ = some (.slice A0_1 l0_1.length c0_1) := (blk_cell BK209.out 1).trans rfl
                                    have hfz68_0 := blk_frozen BK209.out 0
                                    have hfz68_1 := blk_frozen BK209.out 1
                                    go_wp2_with (first | ((with_reducible refine gate_callee (f := 18) rfl ?_); refine goesL_ (some 124) rfl rfl Try.func18 (by kernel_rfl) rfl #[.agg #[.int .i64 a0_0, .slice A0_1 l0_1.length c0_1], .int .i64 (rd t222 x116_3)] rfl (by (try simp only [List.map_toArray, List.map_cons, List.map_nil]); first | done | rfl | (simp only [List.length_drop, List.length_take]; rfl)) ?_; (with_reducible refine (Ext.Activities.calls k3 a0_0 _ _ l0_1 (rd t222 x116_3) t244 t245 t246 _ ?side1 ?side2 A53.out).mono ?_); (case side1 => repeat (first | exact (Kd.C_below HR0_1.out HB.out) | (with_reducible refine Kd.C_alloc ?_ _) | (with_reducible refine Kd.C_drewN ?_ _) | (with_reducible refine Kd.C_drew ?_))); (case side2 => exact HC0_1.out); rintro e w69 ⟨rfl, hb⟩; refine ⟨_, rfl, ?_⟩; have n0_ := Aside0.mk (Kd.R_below (by (with_reducible repeat (first | apply Kd.R_alloc | apply Kd.R_drewN | apply Kd.R_drew)); exact HO_9.out) hb); have n1_ := Aside0.mk (Kd.R_below (by (with_reducible repeat (first | apply Kd.R_alloc | apply Kd.R_drewN | apply Kd.R_drew)); exact HO_11.out) hb); have n2_ := Aside0.mk (Kd.S_below (by (with_reducible repeat (first | apply Kd.S_alloc | apply Kd.S_drewN | apply Kd.S_drew)); exact HO_13.out) hb); have n3_ := Aside0.mk (Kd.R_below (by (with_reducible repeat (first | apply Kd.R_alloc | apply Kd.R_drewN | apply Kd.R_drew)); exact HO_15.out) hb); have n4_ := Aside0.mk (Kd.R_below (by (with_reducible repeat (first | apply Kd.R_alloc | apply Kd.R_drewN | apply Kd.R_drew)); exact HO_114.out) hb); have n5_ := Aside0.mk (blk_below (g := gb209) (o := .cells #[.int .i64 a0_0, .slice A0_1 l0_1.length c0_1] 33 (0, 0)) (by (with_reducible repeat (first | refine blk_drewN ?_ _ | refine blk_drew ?_ | refine blk_alloc ?_ _)); exact BK209.out) hb); have n6_ := Aside0.mk (below_step (by repeat (first | (with_reducible first | exact HB.out | apply below_alloc | apply pw_below_drewN | apply below_drew1 | refine below_set ?_ GE209.out) | exact HB.out)) hb); clear HO_9; clear HO_11; clear HO_13; clear HO_15; clear HO_114; clear BK209; clear HB; have HO_9 := n0_; have HO_11 := n1_; have HO_13 := n2_; have HO_15 := n3_; have HO_114 := n4_; have BK209 := n5_; have HB := n6_; clear n0_ n1_ n2_ n3_ n4_ n5_ n6_; (try clear hb); (try clear hb2); (try clear hk); (try clear hi); obtain ⟨Ao70, co70, eo70⟩ := Kd.R_slice HO_9.out; subst eo70; have p247 : 0 ≤ (x116_3 : Int) := of_decide_eq_true (by first | (with_reducible assumption) | assumption); have q247 : x116_3 < (t228.length : Int) := of_decide_eq_true (by first | (with_reducible assumption) | assumption); obtain ⟨ad247, e247, hx247_0⟩ := Kd.at_int (Kd.R_reads' HO_9.out).2.2 x116_3 p247 q247; cases e247; replace p247 := eq_true p247; replace q247 := eq_true q247))
                                    go_ret
                                    exact ⟨by first | rfl | (simp [errW_none, errW_some] <;> rfl) | (simp [*, errW_none, errW_some] <;> rfl), by repeat (first | (with_reducible first | exact HB.out | apply below_alloc | apply pw_below_drewN | apply below_drew1 | refine below_set ?_ GE209.out) | exact HB.out)⟩
                                · rw [if_neg c55] at H
                                  exact absurd H (by simp)
                              · rw [if_neg c54] at H
                                have c54b0 : (t246 == 0) = false := beq_eq_false_iff_ne.mpr c54
                                have c54b1 : (t246 != 0) = true := bne_iff_ne.mpr c54
                                obtain rfl := Option.some.inj H
                                have p243 : 0 ≤ (x116_3 : Int) := of_decide_eq_true (by first | (with_reducible assumption) | assumption)
                                have q243 : x116_3 < (t222.length : Int) := of_decide_eq_true (by first | (with_reducible assumption) | assumption)
                                obtain ⟨ad243, e243, hx243_0⟩ := Kd.at_int (Kd.R_reads' HO_114.out).2.2 x116_3 p243 q243
                                cases e243
                                replace p243 := eq_true p243
                                replace q243 := eq_true q243
                                have hcz71_0 : wr.cell? ⟨gb209, 0, none⟩ = some (.int .i64 a0_0) := (blk_cell BK209.out 0).trans rfl
                                have hcz71_1 : wr.cell? ⟨gb209, 1, none⟩ = some (.slice A0_1 l0_1.length c0_1) := (blk_cell BK209.out 1).trans rfl
                                have hfz71_0 := blk_frozen BK209.out 0
                                have hfz71_1 := blk_frozen BK209.out 1
                                go_wp2_with (first | ((with_reducible refine gate_callee (f := 18) rfl ?_); refine goesL_ (some 124) rfl rfl Try.func18 (by kernel_rfl) rfl #[.agg #[.int .i64 a0_0, .slice A0_1 l0_1.length c0_1], .int .i64 (rd t222 x116_3)] rfl (by (try simp only [List.map_toArray, List.map_cons, List.map_nil]); first | done | rfl | (simp only [List.length_drop, List.length_take]; rfl)) ?_; (with_reducible refine (Ext.Activities.calls k3 a0_0 _ _ l0_1 (rd t222 x116_3) t244 t245 t246 _ ?side1 ?side2 A53.out).mono ?_); (case side1 => repeat (first | exact (Kd.C_below HR0_1.out HB.out) | (with_reducible refine Kd.C_alloc ?_ _) | (with_reducible refine Kd.C_drewN ?_ _) | (with_reducible refine Kd.C_drew ?_))); (case side2 => exact HC0_1.out); rintro e w72 ⟨rfl, hb⟩; refine ⟨_, rfl, ?_⟩; have n0_ := Aside0.mk (Kd.R_below (by (with_reducible repeat (first | apply Kd.R_alloc | apply Kd.R_drewN | apply Kd.R_drew)); exact HO_9.out) hb); have n1_ := Aside0.mk (Kd.R_below (by (with_reducible repeat (first | apply Kd.R_alloc | apply Kd.R_drewN | apply Kd.R_drew)); exact HO_11.out) hb); have n2_ := Aside0.mk (Kd.S_below (by (with_reducible repeat (first | apply Kd.S_alloc | apply Kd.S_drewN | apply Kd.S_drew)); exact HO_13.out) hb); have n3_ := Aside0.mk (Kd.R_below (by (with_reducible repeat (first | apply Kd.R_alloc | apply Kd.R_drewN | apply Kd.R_drew)); exact HO_15.out) hb); have n4_ := Aside0.mk (Kd.R_below (by (with_reducible repeat (first | apply Kd.R_alloc | apply Kd.R_drewN | apply Kd.R_drew)); exact HO_114.out) hb); have n5_ := Aside0.mk (blk_below (g := gb209) (o := .cells #[.int .i64 a0_0, .slice A0_1 l0_1.length c0_1] 33 (0, 0)) (by (with_reducible repeat (first | refine blk_drewN ?_ _ | refine blk_drew ?_ | refine blk_alloc ?_ _)); exact BK209.out) hb); have n6_ := Aside0.mk (below_step (by repeat (first | (with_reducible first | exact HB.out | apply below_alloc | apply pw_below_drewN | apply below_drew1 | refine below_set ?_ GE209.out) | exact HB.out)) hb); clear HO_9; clear HO_11; clear HO_13; clear HO_15; clear HO_114; clear BK209; clear HB; have HO_9 := n0_; have HO_11 := n1_; have HO_13 := n2_; have HO_15 := n3_; have HO_114 := n4_; have BK209 := n5_; have HB := n6_; clear n0_ n1_ n2_ n3_ n4_ n5_ n6_; (try clear hb); (try clear hb2); (try clear hk); (try clear hi)))
                                go_ret
                                exact ⟨by first | rfl | (simp [errW_none, errW_some] <;> rfl) | (simp [*, errW_none, errW_some] <;> rfl), by repeat (first | (with_reducible first | exact HB.out | apply below_alloc | apply pw_below_drewN | apply below_drew1 | refine below_set ?_ GE209.out) | exact HB.out)⟩
                            · rw [if_neg c52] at H
                              exact absurd H (by simp)
                          · rw [if_neg c51] at H
                            exact absurd H (by simp)
                        · rw [if_neg c50] at H
                          have c50b0 : decide (x116_3 < (t222.length : Int)) = false := decide_eq_false c50
                          clear c50
                          replace H := Option.bind_eq_some_iff.mp H
                          obtain ⟨t252, A730, H⟩ := H
                          replace H : (if t252 = true then (rotakeep_ComplexBjoerner.l1 k3 t232 t236 (t236.length : Int) 0) else (some false)) = some r := H
                          have A73 := Aside0.mk A730
                          clear A730
                          by_cases c74 : t252 = true
                          · subst c74
                            have H1 : (rotakeep_ComplexBjoerner.l1 k3 t232 t236 (t236.length : Int) 0) = some r := by rw [if_pos rfl] at H; exact H
                            clear H
                            have H := H1
                            clear H1
                            have H' := Aside0.mk H
                            clear H
                            obtain ⟨Ao75, co75, eo75⟩ := Kd.R_slice HO_15.out
                            subst eo75
                            go_wp2_with (first | ((with_reducible refine gate_callee (f := 13) rfl ?_); refine goesL_ (some 153) rfl rfl Try.func13 (by kernel_rfl) rfl #[.slice Ao75 x15_3.length co75, .slice Ao47 t232.length co47] rfl (by (try simp only [List.map_toArray, List.map_cons, List.map_nil]); first | done | rfl | (simp only [List.length_drop, List.length_take]; rfl)) ?_; (with_reducible refine (rotalaw_Same_int.calls k3 _ _ x15_3 _ _ t232 true _ ?side1 ?side2 ?side3 ?side4 A73.out).mono ?_); (case side1 => repeat (first | exact (Kd.R_reads' HO_15.out).2.2 | (with_reducible refine Kd.C_alloc ?_ _) | (with_reducible refine Kd.C_drewN ?_ _) | (with_reducible refine Kd.C_drew ?_))); (case side2 => exact (Kd.R_reads' HO_15.out).2.1); (case side3 => repeat (first | exact (Kd.R_reads' HO_11.out).2.2 | (with_reducible refine Kd.C_alloc ?_ _) | (with_reducible refine Kd.C_drewN ?_ _) | (with_reducible refine Kd.C_drew ?_))); (case side4 => exact (Kd.R_reads' HO_11.out).2.1); rintro e w' ⟨rfl, ⟨nd, rfl⟩⟩; refine ⟨_, rfl, ?_⟩; obtain ⟨Ao76, co76, eo76⟩ := Kd.S_slice HO_13.out; subst eo76))
                            go_loopg [157] k3 (fun kq v157 w' => ∃ (x157_4 : Int), v157 = .int .i64 x157_4 ∧ Aside0 (rotakeep_ComplexBjoerner.l1 kq t232 t236 (t236.length : Int) x157_4 = some r) ∧ Aside0 (kq ≤ k3) ∧ Aside0 (Kd.R (Kd.int .i64) 3 w' w.heap.size (fun _ => True) (.slice Ao47 t232.length co47) t232) ∧ Aside0 (Kd.S (Kd.slice 2 (Kd.int .i64)) 54 w' w.heap.size (fun _ => True) (.slice Ao76 t236.length co76) t236) ∧ Aside0 (w'.heap[gb209]? = some (.cells #[.int .i64 a0_0, (.slice A0_1 l0_1.length c0_1)] 33 (0, 0))) ∧ Aside0 (Below w.heap.size w w'))
                            case atStart => exact ⟨(0), (by first | rfl | (simp; done) | (simp [*]; done)), H', ⟨Nat.le_refl _⟩, ⟨by (with_reducible repeat (first | apply Kd.R_alloc | apply Kd.R_drewN | apply Kd.R_drew)); exact Kd.R_mono HO_11.out (fun _ hk => trivial)⟩, ⟨by (with_reducible repeat (first | apply Kd.S_alloc | apply Kd.S_drewN | apply Kd.S_drew)); exact HO_13.out⟩, ⟨by (with_reducible repeat (first | refine blk_drewN ?_ _ | refine blk_drew ?_ | refine blk_alloc ?_ _)); exact BK209.out⟩, ⟨by repeat (first | (with_reducible first | exact HB.out | apply below_alloc | apply pw_below_drewN | apply below_drew1 | refine below_set ?_ GE209.out) | exact HB.out)⟩⟩
                            case round =>
                              clear H'
                              try clear c1
                              try clear p2
                              try clear q2
                              try clear hx2
                              try clear c3
                              try clear c4
                              try clear c5
                              try clear p6
                              try clear q6
                              try clear hx6
                              try clear hf6
                              try clear c7
                              try clear c9
                              try clear c9b0
                              try clear c9b1
                              try clear c11
                              try clear c12
                              try clear c13
                              try clear c14
                              try clear c15
                              try clear c16
                              try clear c17
                              try clear c17b0
                              try clear c17b1
                              try clear c18
                              try clear c19
                              try clear p24
                              try clear q24
                              try clear hx24
                              try clear p25
                              try clear q25
                              try clear hx25
                              try clear c34
                              try clear c34b0
                              try clear c34b1
                              try clear c35
                              try clear c35b0
                              try clear c35b1
                              try clear c36
                              try clear c36b0
                              try clear c36b1
                              try clear c37
                              try clear c37b0
                              try clear c37b1
                              try clear c38
                              try clear c39
                              try clear c39b0
                              try clear c39b1
                              try clear c39b2
                              try clear c44
                              try clear c45
                              try clear c45b0
                              try clear c45b1
                              try clear c46
                              try clear c46b0
                              try clear c46b1
                              try clear c50
                              try clear c50b0
                              try clear c51
                              try clear c51b0
                              try clear c52
                              try clear c52b0
                              try clear c54
                              try clear c54b0
                              try clear c54b1
                              try clear c55
                              try clear c55b0
                              try clear c56
                              try clear c56b0
                              try clear c56b1
                              try clear c58
                              try clear c58b0
                              try clear c59
                              try clear c59b0
                              try clear p60
                              try clear q60
                              try clear hx60
                              try clear hf60
                              try clear p64
                              try clear c74
                              try clear hcz23_0
                              try clear hcz23_1
                              try clear hcz25_0
                              try clear hcz25_1
                              try clear hcz28_0
                              try clear hcz28_1
                              try clear hcz30_0
                              try clear hcz30_1
                              try clear hcz32_0
                              try clear hcz32_1
                              try clear hcz61_0
                              try clear hcz61_1
                              try clear hcz68_0
                              try clear hcz68_1
                              try clear hcz71_0
                              try clear hcz71_1
                              try clear hfz23_0
                              try clear hfz23_1
                              try clear hfz25_0
                              try clear hfz25_1
                              try clear hfz28_0
                              try clear hfz28_1
                              try clear hfz30_0
                              try clear hfz30_1
                              try clear hfz32_0
                              try clear hfz32_1
                              try clear hfz61_0
                              try clear hfz61_1
                              try clear hfz68_0
                              try clear hfz68_1
                              try clear hfz71_0
                              try clear hfz71_1
                              try clear hx243_0
                              try clear hx247_0
                              try clear hx248_0
                              try clear hx250_0
                              try clear hx60_0
                              try clear p2
                              try clear p243
                              try clear p247
                              try clear p248
                              try clear p250
                              try clear p60
                              try clear q243
                              try clear q247
                              try clear q248
                              try clear q250
                              try clear q60
                              obtain ⟨x157_4, rfl, HA, HK4, HO_11, HO_13, BK209, HB⟩ := hrel
                              cases gk with
                              | zero => exact absurd HA.out (by simp [rotakeep_ComplexBjoerner.l1])
                              | succ k4 =>
                                have H := HA.out
                                clear HA
                                simp only [rotakeep_ComplexBjoerner.l1] at H
                                by_cases c77 : x157_4 < (t236.length : Int)
                                · rw [if_pos c77] at H
                                  have c77b0 : decide (x157_4 < (t236.length : Int)) = true := decide_eq_true c77
                                  clear c77
                                  by_cases c78 : 0 ≤ x157_4
                                  · rw [if_pos c78] at H
                                    have c78b0 : decide (0 ≤ x157_4) = true := decide_eq_true c78
                                    clear c78
                                    by_cases c79 : x157_4 < (t236.length : Int)
                                    · rw [if_pos c79] at H
                                      have c79b0 : decide (x157_4 < (t236.length : Int)) = true := decide_eq_true c79
                                      clear c79
                                      have H' := Aside0.mk H
                                      clear H
                                      have p253 : 0 ≤ (x157_4 : Int) := of_decide_eq_true (by first | (with_reducible assumption) | assumption)
                                      have q253 : x157_4 < (t236.length : Int) := of_decide_eq_true (by first | (with_reducible assumption) | assumption)
                                      obtain ⟨ad253, A253_0, c253_0, e253, hx253_0, hl253_0, hi253_0⟩ := at_L3 (Kd.S_reads' HO_13.out).2.2 x157_4 p253 q253
                                      cases e253
                                      obtain ⟨ce253, hce253, hMe253, hcc253⟩ := Kd.S_get HO_13.out [] x157_4 p253 (by first | exact q253 | exact of_decide_eq_true (by first | (with_reducible assumption) | assumption) | (have e_ := (Kd.S_reads' HO_13.out).1; omega))
                                      obtain ⟨ve253_0, rfl, ge253_0⟩ := hMe253
                                      have hv253_0 := hcc253 0 _ rfl
                                      rw [Nat.add_zero, show ((Kd.slice 2 (Kd.int .i64))).sz = 1 from rfl, Nat.mul_one] at hv253_0
                                      replace hv253_0 := Option.some.inj (hv253_0.symm.trans hx253_0)
                                      rw [hv253_0] at ge253_0
                                      have HL253_0 := Aside0.mk (show Kd.R (Kd.int .i64) 2 _ _ _ _ (rd_L3 t236 x157_4) from ge253_0)
                                      clear hv253_0 ge253_0
                                      clear hcc253 hce253
                                      have HR253_0 := Aside0.mk hi253_0
                                      have HC253_0 := Aside0.mk hl253_0
                                      clear hi253_0 hl253_0
                                      replace p253 := eq_true p253
                                      replace q253 := eq_true q253
                                      go_wp2
                                      go_loopg [22, 165] k4 (fun kq v22 v165 w' => ∃ (x22_5 : Int) (x165_5 : Int), v22 = .int .i64 x22_5 ∧ v165 = .int .i64 x165_5 ∧ Aside0 (rotakeep_ComplexBjoerner.l2 kq t232 t236 x157_4 x22_5 (t236.length : Int) x157_4 (rd_L3 t236 x157_4) ((rd_L3 t236 x157_4).length : Int) x165_5 = some r) ∧ Aside0 (kq ≤ k4) ∧ Aside0 (Kd.R (Kd.int .i64) 3 w' w.heap.size (fun _ => True) (.slice Ao47 t232.length co47) t232) ∧ Aside0 (Kd.S (Kd.slice 2 (Kd.int .i64)) 54 w' w.heap.size (fun _ => True) (.slice (some ad253) t236.length co76) t236) ∧ Aside0 (w'.heap[gb209]? = some (.cells #[.int .i64 a0_0, (.slice A0_1 l0_1.length c0_1)] 33 (0, 0))) ∧ Aside0 (Kd.C (Kd.int .i64) w' A253_0 (rd_L3 t236 x157_4).length (rd_L3 t236 x157_4)) ∧ Aside0 (Below w.heap.size w w'))
                                      case atStart => exact ⟨(0), (0), (by first | rfl | (simp; done) | (simp [*]; done)), (by first | rfl | (simp; done) | (simp [*]; done)), H', ⟨Nat.le_refl _⟩, ⟨by (with_reducible repeat (first | apply Kd.R_alloc | apply Kd.R_drewN | apply Kd.R_drew)); exact HO_11.out⟩, ⟨by (with_reducible repeat (first | apply Kd.S_alloc | apply Kd.S_drewN | apply Kd.S_drew)); exact HO_13.out⟩, ⟨by (with_reducible repeat (first | refine blk_drewN ?_ _ | refine blk_drew ?_ | refine blk_alloc ?_ _)); exact BK209.out⟩, ⟨by repeat (first | (with_reducible exact HR253_0.out) | (with_reducible refine Kd.C_alloc ?_ _) | (with_reducible refine Kd.C_drewN ?_ _) | (with_reducible refine Kd.C_drew ?_) | exact HR253_0.out)⟩, ⟨by repeat (first | (with_reducible first | exact HB.out | apply below_alloc | apply pw_below_drewN | apply below_drew1 | refine below_set ?_ GE209.out) | exact HB.out)⟩⟩
                                      case round =>
                                        clear H'
                                        try clear c1
                                        try clear c2
                                        try clear p2
                                        try clear q2
                                        try clear hx2
                                        try clear c3
                                        try clear c4
                                        try clear c5
                                        try clear p6
                                        try clear q6
                                        try clear hx6
                                        try clear hf6
                                        try clear c7
                                        try clear c9
                                        try clear c9b0
                                        try clear c9b1
                                        try clear c11
                                        try clear c12
                                        try clear c13
                                        try clear c14
                                        try clear c15
                                        try clear c16
                                        try clear c17
                                        try clear c17b0
                                        try clear c17b1
                                        try clear c18
                                        try clear c19
                                        try clear p24
                                        try clear q24
                                        try clear hx24
                                        try clear c25
                                        try clear p25
                                        try clear q25
                                        try clear hx25
                                        try clear c34
                                        try clear c34b0
                                        try clear c34b1
                                        try clear c35
                                        try clear c35b0
                                        try clear c35b1
                                        try clear c36
                                        try clear c36b0
                                        try clear c36b1
                                        try clear c37
                                        try clear c37b0
                                        try clear c37b1
                                        try clear c38
                                        try clear c39
                                        try clear c39b0
                                        try clear c39b1
                                        try clear c39b2
                                        try clear c44
                                        try clear c45
                                        try clear c45b0
                                        try clear c45b1
                                        try clear c46
                                        try clear c46b0
                                        try clear c46b1
                                        try clear c50
                                        try clear c50b0
                                        try clear c51
                                        try clear c51b0
                                        try clear c52
                                        try clear c52b0
                                        try clear c54
                                        try clear c54b0
                                        try clear c54b1
                                        try clear c55
                                        try clear c55b0
                                        try clear c56
                                        try clear c56b0
                                        try clear c56b1
                                        try clear c58
                                        try clear c58b0
                                        try clear c59
                                        try clear c59b0
                                        try clear p60
                                        try clear q60
                                        try clear hx60
                                        try clear hf60
                                        try clear p64
                                        try clear c74
                                        try clear c77
                                        try clear c77b0
                                        try clear c78
                                        try clear c78b0
                                        try clear c79
                                        try clear c79b0
                                        try clear hcz23_0
                                        try clear hcz23_1
                                        try clear hcz25_0
                                        try clear hcz25_1
                                        try clear hcz28_0
                                        try clear hcz28_1
                                        try clear hcz30_0
                                        try clear hcz30_1
                                        try clear hcz32_0
                                        try clear hcz32_1
                                        try clear hcz61_0
                                        try clear hcz61_1
                                        try clear hcz68_0
                                        try clear hcz68_1
                                        try clear hcz71_0
                                        try clear hcz71_1
                                        try clear hfz23_0
                                        try clear hfz23_1
                                        try clear hfz25_0
                                        try clear hfz25_1
                                        try clear hfz28_0
                                        try clear hfz28_1
                                        try clear hfz30_0
                                        try clear hfz30_1
                                        try clear hfz32_0
                                        try clear hfz32_1
                                        try clear hfz61_0
                                        try clear hfz61_1
                                        try clear hfz68_0
                                        try clear hfz68_1
                                        try clear hfz71_0
                                        try clear hfz71_1
                                        try clear hx243_0
                                        try clear hx247_0
                                        try clear hx248_0
                                        try clear hx250_0
                                        try clear hx253_0
                                        try clear hx60_0
                                        try clear p2
                                        try clear p24
                                        try clear p243
                                        try clear p247
                                        try clear p248
                                        try clear p25
                                        try clear p250
                                        try clear p253
                                        try clear p6
                                        try clear p60
                                        try clear p64
                                        try clear q2
                                        try clear q24
                                        try clear q243
                                        try clear q247
                                        try clear q248
                                        try clear q25
                                        try clear q250
                                        try clear q253
                                        try clear q6
                                        try clear q60
                                        obtain ⟨x22_5, x165_5, rfl, rfl, HA, HK5, HO_11, HO_13, BK209, HR253_0, HB⟩ := hrel
                                        cases gk with
                                        | zero => exact absurd HA.out (by simp [rotakeep_ComplexBjoerner.l2])
                                        | succ k5 =>
                                          have H := HA.out
                                          clear HA
                                          simp only [rotakeep_ComplexBjoerner.l2] at H
                                          by_cases c80 : x165_5 < ((rd_L3 t236 x157_4).length : Int)
                                          · rw [if_pos c80] at H
                                            have c80b0 : decide (x165_5 < ((rd_L3 t236 x157_4).length : Int)) = true := decide_eq_true c80
                                            clear c80
                                            by_cases c81 : 0 ≤ x165_5
                                            · rw [if_pos c81] at H
                                              have c81b0 : decide (0 ≤ x165_5) = true := decide_eq_true c81
                                              clear c81
                                              by_cases c82 : x165_5 < ((rd_L3 t236 x157_4).length : Int)
                                              · rw [if_pos c82] at H
                                                have c82b0 : decide (x165_5 < ((rd_L3 t236 x157_4).length : Int)) = true := decide_eq_true c82
                                                clear c82
                                                have H' := Aside0.mk H
                                                clear H
                                                have p254 : 0 ≤ (x165_5 : Int) := of_decide_eq_true (by first | (with_reducible assumption) | assumption)
                                                have q254 : x165_5 < ((rd_L3 t236 x157_4).length : Int) := of_decide_eq_true (by first | (with_reducible assumption) | assumption)
                                                obtain ⟨ad254, e254, hx254_0⟩ := Kd.at_int HR253_0.out x165_5 p254 q254
                                                cases e254
                                                replace p254 := eq_true p254
                                                replace q254 := eq_true q254
                                                go_wp2
                                                go_roundg k5
                                                case measure => have := HJ3.out; have := HJ21.out; have := HK3.out; have := HK4.out; have := HK5.out; omega
                                                case rel => exact ⟨(wrap64 (x22_5 + (rd (rd_L3 t236 x157_4) x165_5))), (wrap64 (x165_5 + 1)), (by first | rfl | (simp; done) | (simp [*]; done)), (by first | rfl | (simp; done) | (simp [*]; done)), H', ⟨by have := HJ3.out; have := HJ21.out; have := HK3.out; have := HK4.out; have := HK5.out; omega⟩, ⟨by (with_reducible repeat (first | apply Kd.R_alloc | apply Kd.R_drewN | apply Kd.R_drew)); exact HO_11.out⟩, ⟨by (with_reducible repeat (first | apply Kd.S_alloc | apply Kd.S_drewN | apply Kd.S_drew)); exact HO_13.out⟩, ⟨by (with_reducible repeat (first | refine blk_drewN ?_ _ | refine blk_drew ?_ | refine blk_alloc ?_ _)); exact BK209.out⟩, ⟨by repeat (first | (with_reducible exact HR253_0.out) | (with_reducible refine Kd.C_alloc ?_ _) | (with_reducible refine Kd.C_drewN ?_ _) | (with_reducible refine Kd.C_drew ?_) | exact HR253_0.out)⟩, ⟨by repeat (first | (with_reducible first | exact HB.out | apply below_alloc | apply pw_below_drewN | apply below_drew1 | refine below_set ?_ GE209.out) | exact HB.out)⟩⟩
                                              · rw [if_neg c82] at H
                                                exact absurd H (by simp)
                                            · rw [if_neg c81] at H
                                              exact absurd H (by simp)
                                          · rw [if_neg c80] at H
                                            have c80b0 : decide (x165_5 < ((rd_L3 t236 x157_4).length : Int)) = false := decide_eq_false c80
                                            clear c80
                                            obtain ⟨ji83, hji83⟩ : ∃ j_ : Int, (wrap64 ((wrap64 ((t232.length : Int) - 1)) - x157_4)) = j_ := ⟨_, rfl⟩
                                            replace H : (if 0 ≤ (ji83) then (if (ji83) < (t232.length : Int) then (if x22_5 = (rd t232 (ji83)) then (rotakeep_ComplexBjoerner.l1 k5 t232 t236 (t236.length : Int) (wrap64 (x157_4 + 1))) else (some false)) else (none)) else (none)) = some r := by first | (rw [hji83] at H; exact H) | (simp only [hji83] at H ⊢; exact H)
                                            have hji83w : (IntKind.i64.wrap ((wrap64 ((t232.length : Int) - 1)) - x157_4)) = ji83 := (i64_w _).trans hji83
                                            by_cases c84 : 0 ≤ (ji83)
                                            · rw [if_pos c84] at H
                                              have c84b0 : decide (0 ≤ (ji83)) = true := decide_eq_true c84
                                              clear c84
                                              by_cases c85 : (ji83) < (t232.length : Int)
                                              · rw [if_pos c85] at H
                                                have c85b0 : decide ((ji83) < (t232.length : Int)) = true := decide_eq_true c85
                                                clear c85
                                                by_cases c86 : x22_5 = (rd t232 (ji83))
                                                · rw [if_pos c86] at H
                                                  have c86b0 : (x22_5 == (rd t232 (ji83))) = true := beq_iff_eq.mpr c86
                                                  have c86b1 : (x22_5 != (rd t232 (ji83))) = false := bne_eq_false_iff_eq.mpr c86
                                                  clear c86
                                                  have H' := Aside0.mk H
                                                  clear H
                                                  have p255 : 0 ≤ ((ji83) : Int) := of_decide_eq_true (by first | (with_reducible assumption) | assumption)
                                                  have q255 : (ji83) < (t232.length : Int) := of_decide_eq_true (by first | (with_reducible assumption) | assumption)
                                                  obtain ⟨ad255, e255, hx255_0⟩ := Kd.at_int (Kd.R_reads' HO_11.out).2.2 (ji83) p255 q255
                                                  cases e255
                                                  replace p255 := eq_true p255
                                                  replace q255 := eq_true q255
                                                  go_wp2
                                                  go_roundg k5
                                                  case measure => have := HJ3.out; have := HJ21.out; have := HK3.out; have := HK4.out; have := HK5.out; omega
                                                  case rel => exact ⟨(wrap64 (x157_4 + 1)), (by first | rfl | (simp; done) | (simp [*]; done)), H', ⟨by have := HJ3.out; have := HJ21.out; have := HK3.out; have := HK4.out; have := HK5.out; omega⟩, ⟨by (with_reducible repeat (first | apply Kd.R_alloc | apply Kd.R_drewN | apply Kd.R_drew)); exact HO_11.out⟩, ⟨by (with_reducible repeat (first | apply Kd.S_alloc | apply Kd.S_drewN | apply Kd.S_drew)); exact HO_13.out⟩, ⟨by (with_reducible repeat (first | refine blk_drewN ?_ _ | refine blk_drew ?_ | refine blk_alloc ?_ _)); exact BK209.out⟩, ⟨by repeat (first | (with_reducible first | exact HB.out | apply below_alloc | apply pw_below_drewN | apply below_drew1 | refine below_set ?_ GE209.out) | exact HB.out)⟩⟩
                                                · rw [if_neg c86] at H
                                                  have c86b0 : (x22_5 == (rd t232 (ji83))) = false := beq_eq_false_iff_ne.mpr c86
                                                  have c86b1 : (x22_5 != (rd t232 (ji83))) = true := bne_iff_ne.mpr c86
                                                  obtain rfl := Option.some.inj H
                                                  have p255 : 0 ≤ ((ji83) : Int) := of_decide_eq_true (by first | (with_reducible assumption) | assumption)
                                                  have q255 : (ji83) < (t232.length : Int) := of_decide_eq_true (by first | (with_reducible assumption) | assumption)
                                                  obtain ⟨ad255, e255, hx255_0⟩ := Kd.at_int (Kd.R_reads' HO_11.out).2.2 (ji83) p255 q255
                                                  cases e255
                                                  replace p255 := eq_true p255
                                                  replace q255 := eq_true q255
                                                  go_wp2
                                                  go_ret
                                                  exact ⟨by first | rfl | (simp [errW_none, errW_some] <;> rfl) | (simp only [← hji83]; first | rfl | (simp [errW_none, errW_some] <;> rfl)) | (simp [*, errW_none, errW_some] <;> rfl), by repeat (first | (with_reducible first | exact HB.out | apply below_alloc | apply pw_below_drewN | apply below_drew1 | refine below_set ?_ GE209.out) | exact HB.out)⟩
                                              · rw [if_neg c85] at H
                                                exact absurd H (by simp)
                                            · rw [if_neg c84] at H
                                              exact absurd H (by simp)
                                    · rw [if_neg c79] at H
                                      exact absurd H (by simp)
                                  · rw [if_neg c78] at H
                                    exact absurd H (by simp)
                                · rw [if_neg c77] at H
                                  have c77b0 : decide (x157_4 < (t236.length : Int)) = false := decide_eq_false c77
                                  clear c77
                                  obtain rfl := Option.some.inj H
                                  go_wp2
                                  go_ret
                                  exact ⟨by first | rfl | (simp [errW_none, errW_some] <;> rfl) | (simp [*, errW_none, errW_some] <;> rfl), by repeat (first | (with_reducible first | exact HB.out | apply below_alloc | apply pw_below_drewN | apply below_drew1 | refine below_set ?_ GE209.out) | exact HB.out)⟩
                          · replace c74 := Bool.eq_false_iff.mpr c74
                            subst c74
                            have H1 : (some false) = some r := by rw [if_neg (show ¬ (false = true) by decide)] at H; exact H
                            clear H
                            have H := H1
                            clear H1
                            obtain rfl := Option.some.inj H
                            obtain ⟨Ao87, co87, eo87⟩ := Kd.R_slice HO_15.out
                            subst eo87
                            go_wp2_with (first | ((with_reducible refine gate_callee (f := 13) rfl ?_); refine goesL_ (some 153) rfl rfl Try.func13 (by kernel_rfl) rfl #[.slice Ao87 x15_3.length co87, .slice Ao47 t232.length co47] rfl (by (try simp only [List.map_toArray, List.map_cons, List.map_nil]); first | done | rfl | (simp only [List.length_drop, List.length_take]; rfl)) ?_; (with_reducible refine (rotalaw_Same_int.calls k3 _ _ x15_3 _ _ t232 false _ ?side1 ?side2 ?side3 ?side4 A73.out).mono ?_); (case side1 => repeat (first | exact (Kd.R_reads' HO_15.out).2.2 | (with_reducible refine Kd.C_alloc ?_ _) | (with_reducible refine Kd.C_drewN ?_ _) | (with_reducible refine Kd.C_drew ?_))); (case side2 => exact (Kd.R_reads' HO_15.out).2.1); (case side3 => repeat (first | exact (Kd.R_reads' HO_11.out).2.2 | (with_reducible refine Kd.C_alloc ?_ _) | (with_reducible refine Kd.C_drewN ?_ _) | (with_reducible refine Kd.C_drew ?_))); (case side4 => exact (Kd.R_reads' HO_11.out).2.1); rintro e w' ⟨rfl, ⟨nd, rfl⟩⟩; refine ⟨_, rfl, ?_⟩))
                            go_ret
                            exact ⟨by first | rfl | (simp [errW_none, errW_some] <;> rfl) | (simp [*, errW_none, errW_some] <;> rfl), by repeat (first | (with_reducible first | exact HB.out | apply below_alloc | apply pw_below_drewN | apply below_drew1 | refine below_set ?_ GE209.out) | exact HB.out)⟩
                  · rw [if_neg c46] at H
                    exact absurd H (by simp)
                · rw [if_neg c45] at H
                  exact absurd H (by simp)
        · rw [if_neg c17] at H
          have c17b0 : (t225 == 0) = false := beq_eq_false_iff_ne.mpr c17
          have c17b1 : (t225 != 0) = true := bne_iff_ne.mpr c17
          obtain rfl := Option.some.inj H
          have hcz88_0 : wc.cell? ⟨gb209, 0, none⟩ = some (.int .i64 a0_0) := (blk_cell BK209.out 0).trans rfl
          have hcz88_1 : wc.cell? ⟨gb209, 1, none⟩ = some (.slice A0_1 l0_1.length c0_1) := (blk_cell BK209.out 1).trans rfl
          have hfz88_0 := blk_frozen BK209.out 0
          have hfz88_1 := blk_frozen BK209.out 1
          go_wp2_with (first | ((with_reducible refine gate_callee (f := 11) rfl ?_); refine goesL_ (some 40) rfl rfl Try.func11 (by kernel_rfl) rfl #[.agg #[.int .i64 a0_0, .slice A0_1 l0_1.length c0_1]] rfl (by (try simp only [List.map_toArray, List.map_cons, List.map_nil]); first | done | rfl | (simp only [List.length_drop, List.length_take]; rfl)) ?_; (with_reducible refine (Ext.Lexical.calls kj3 a0_0 _ _ l0_1 t222 t225 _ ?side1 ?side2 A16.out).mono ?_); (case side1 => repeat (first | exact (Kd.C_below HR0_1.out HB.out) | (with_reducible refine Kd.C_alloc ?_ _) | (with_reducible refine Kd.C_drewN ?_ _) | (with_reducible refine Kd.C_drew ?_))); (case side2 => exact HC0_1.out); rintro e w89 ⟨v223, rfl, ho0, hb⟩; refine ⟨_, rfl, ?_⟩; have n0_ := Aside0.mk (Kd.R_lower ho0 (below_size (by repeat (first | (with_reducible first | exact HB.out | apply below_alloc | apply pw_below_drewN | apply below_drew1 | refine below_set ?_ GE209.out) | exact HB.out)))); have n1_ := Aside0.mk (blk_below (g := gb209) (o := .cells #[.int .i64 a0_0, .slice A0_1 l0_1.length c0_1] 33 (0, 0)) (by (with_reducible repeat (first | refine blk_drewN ?_ _ | refine blk_drew ?_ | refine blk_alloc ?_ _)); exact BK209.out) hb); have n2_ := Aside0.mk (below_step (by repeat (first | (with_reducible first | exact HB.out | apply below_alloc | apply pw_below_drewN | apply below_drew1 | refine below_set ?_ GE209.out) | exact HB.out)) hb); clear BK209; clear HB; have HO224 := n0_; have BK209 := n1_; have HB := n2_; clear n0_ n1_ n2_; (try clear hb); (try clear hb2); (try clear hk); (try clear hi); (try clear ho0); obtain ⟨Ao90, co90, eo90⟩ := Kd.R_slice HO224.out; subst eo90))
          go_ret
          exact ⟨by first | rfl | (simp [errW_none, errW_some] <;> rfl) | (simp [*, errW_none, errW_some] <;> rfl), by repeat (first | (with_reducible first | exact HB.out | apply below_alloc | apply pw_below_drewN | apply below_drew1 | refine below_set ?_ GE209.out) | exact HB.out)⟩

end Go.Proofs.Ytkppdmlellmepaa.PB
