/- Printed by the kit's printer, over contracts of this session's own (wip/tools/xprint.py). -/
import Derived.Test.YtkppdmlellmepaaPBx0
import Derived.Test.YtkppdmlellmepaaPBx1
import Derived.Test.YtkppdmlellmepaaPBx2
import Derived.Test.YtkppdmlellmepaaExtClone
namespace Go.Proofs.Ytkppdmlellmepaa.PB
open Go.RowKit Go.Proofs.YtkppdmlellmepaaW.PrintWords Go.Proofs.YtkppdmlellmepaaW.PrintLast Go.Proofs.YtkppdmlellmepaaW.PrintMore
attribute [local go_sem] max2_int min2_int max_two min_two max_three min_three max_four min_four   -- for this text's walks alone
set_option linter.unusedVariables false
set_option linter.unusedSimpArgs false

/-! ### complex_Shells: function 14 -/
mutual
def complex_Shells.l0 : Nat → List Int → List Int → List Int → Int → Int → Option (Bool × Int)
  | 0, _, _, _, _, _ => none
  | k + 1, x1, x2, x33, x34, x35 => if x35 < x34 then (if 0 ≤ x35 then (if x35 < (x33.length : Int) then ((complex_size.f (rd x33 x35)).bind fun t165 => (if 0 < (x1.length : Int) then ((complex_size.f (rd x1 0)).bind fun t167 => (if t165 = t167 then (complex_Shells.l0 k x1 x2 x33 x34 (wrap64 (x35 + 1))) else (some (false, 3)))) else (none))) else (none)) else (none)) else (complex_Shells.l1 k x2 x2 (x2.length : Int) 0)
def complex_Shells.l1 : Nat → List Int → List Int → Int → Int → Option (Bool × Int)
  | 0, _, _, _, _ => none
  | k + 1, x2, x47, x48, x49 => if x49 < x48 then (if 0 ≤ x49 then (if x49 < (x47.length : Int) then (if x49 ≤ (x2.length : Int) then (complex_Shells.l2 k x2 x49 (rd x47 x49) x47 x48 x49 (x2.take (x49 : Int).toNat) ((x2.take (x49 : Int).toNat).length : Int) 0) else (none)) else (none)) else (none)) else (some (true, 0))
def complex_Shells.l2 : Nat → List Int → Int → Int → List Int → Int → Int → List Int → Int → Int → Option (Bool × Int)
  | 0, _, _, _, _, _, _, _, _, _ => none
  | k + 1, x2, x12, x13, x47, x48, x49, x56, x57, x58 => if x58 < x57 then (if 0 ≤ x58 then (if x58 < (x56.length : Int) then (if 0 ≤ x12 then (if x12 ≤ (x2.length : Int) then (complex_Shells.l3 k x2 x12 x13 (rd x56 x58) false x47 x48 x49 x56 x57 x58 (x2.take (x12 : Int).toNat) ((x2.take (x12 : Int).toNat).length : Int) 0) else (none)) else (none)) else (none)) else (none)) else (complex_Shells.l1 k x2 x47 x48 (wrap64 (x49 + 1)))
def complex_Shells.l3 : Nat → List Int → Int → Int → Int → Bool → List Int → Int → Int → List Int → Int → Int → List Int → Int → Int → Option (Bool × Int)
  | 0, _, _, _, _, _, _, _, _, _, _, _, _, _, _ => none
  | k + 1, x2, x12, x13, x15, x16, x47, x48, x49, x56, x57, x58, x64, x65, x66 => if x66 < x65 then (if 0 ≤ x66 then (if x66 < (x64.length : Int) then (if x16 = true then (complex_Shells.l3 k x2 x12 x13 x15 true x47 x48 x49 x56 x57 x58 x64 x65 (wrap64 (x66 + 1))) else ((complex_size.f (Go.bits .and .i64 x13 (rd x64 x66))).bind fun t173 => ((complex_size.f x13).bind fun t174 => (if t173 = (wrap64 (t174 - 1)) then (complex_Shells.l3 k x2 x12 x13 x15 ((Go.bits .andNot .i64 (Go.bits .and .i64 x13 x15) (rd x64 x66)) == 0) x47 x48 x49 x56 x57 x58 x64 x65 (wrap64 (x66 + 1))) else (complex_Shells.l3 k x2 x12 x13 x15 false x47 x48 x49 x56 x57 x58 x64 x65 (wrap64 (x66 + 1))))))) else (none)) else (none)) else (if x16 = true then (complex_Shells.l2 k x2 x12 x13 x47 x48 x49 x56 x57 (wrap64 (x58 + 1))) else (some (false, 0)))
end
def complex_Shells.f (k : Nat) (a0 : Int) (l1 : List Int) (l2 : List Int) : Option (Bool × Int) := (complex_Check.f k a0 l1).bind fun t158 => (if t158 = 0 then ((Ext.Clone.f l2).bind fun t159 => ((Ext.Sort.f t159).bind fun t162 => ((slices_Equal_int_int.f k t162 l1).bind fun t163 => (if t163 = true then (complex_Shells.l0 k l1 l2 l1 (l1.length : Int) 0) else (some (false, 1)))))) else (some (false, t158)))
theorem complex_Shells.mono_l : ∀ k, (∀ y0 y1 y2 y3 y4, LeO (complex_Shells.l0 k y0 y1 y2 y3 y4) (complex_Shells.l0 (k + 1) y0 y1 y2 y3 y4)) ∧ (∀ y0 y1 y2 y3, LeO (complex_Shells.l1 k y0 y1 y2 y3) (complex_Shells.l1 (k + 1) y0 y1 y2 y3)) ∧ (∀ y0 y1 y2 y3 y4 y5 y6 y7 y8, LeO (complex_Shells.l2 k y0 y1 y2 y3 y4 y5 y6 y7 y8) (complex_Shells.l2 (k + 1) y0 y1 y2 y3 y4 y5 y6 y7 y8)) ∧ (∀ y0 y1 y2 y3 y4 y5 y6 y7 y8 y9 y10 y11 y12 y13, LeO (complex_Shells.l3 k y0 y1 y2 y3 y4 y5 y6 y7 y8 y9 y10 y11 y12 y13) (complex_Shells.l3 (k + 1) y0 y1 y2 y3 y4 y5 y6 y7 y8 y9 y10 y11 y12 y13))
  | 0 => ⟨fun _ _ _ _ _ r h => by simp [complex_Shells.l0] at h, fun _ _ _ _ r h => by simp [complex_Shells.l1] at h, fun _ _ _ _ _ _ _ _ _ r h => by simp [complex_Shells.l2] at h, fun _ _ _ _ _ _ _ _ _ _ _ _ _ _ r h => by simp [complex_Shells.l3] at h⟩
  | k + 1 => by
    obtain ⟨ih0, ih1, ih2, ih3⟩ := complex_Shells.mono_l k
    refine ⟨?_, ?_, ?_, ?_⟩
    · intro y0 y1 y2 y3 y4
      unfold complex_Shells.l0
      repeat' first
      | (with_reducible exact ih0 _ _ _ _ _)
      | (with_reducible exact ih1 _ _ _ _)
      | (with_reducible exact ih2 _ _ _ _ _ _ _ _ _)
      | (with_reducible exact ih3 _ _ _ _ _ _ _ _ _ _ _ _ _ _)
      | (with_reducible exact complex_Check.mono _ _ _)
      | (with_reducible exact slices_Equal_int_int.mono _ _ _)
      | (with_reducible exact LeO.refl _)
      | (with_reducible exact LeO.none _)
      | (with_reducible refine LeO.ite ?_ ?_)
      | (with_reducible refine LeO.bind ?_ (fun _ => ?_))
      | exact ih0 _ _ _ _ _
      | exact ih1 _ _ _ _
      | exact ih2 _ _ _ _ _ _ _ _ _
      | exact ih3 _ _ _ _ _ _ _ _ _ _ _ _ _ _
      | exact complex_Check.mono _ _ _
      | exact slices_Equal_int_int.mono _ _ _
      | exact LeO.none _
      | refine LeO.ite ?_ ?_
      | refine LeO.bind ?_ (fun _ => ?_)
    · intro y0 y1 y2 y3
      unfold complex_Shells.l1
      repeat' first
      | (with_reducible exact ih0 _ _ _ _ _)
      | (with_reducible exact ih1 _ _ _ _)
      | (with_reducible exact ih2 _ _ _ _ _ _ _ _ _)
      | (with_reducible exact ih3 _ _ _ _ _ _ _ _ _ _ _ _ _ _)
      | (with_reducible exact complex_Check.mono _ _ _)
      | (with_reducible exact slices_Equal_int_int.mono _ _ _)
      | (with_reducible exact LeO.refl _)
      | (with_reducible exact LeO.none _)
      | (with_reducible refine LeO.ite ?_ ?_)
      | (with_reducible refine LeO.bind ?_ (fun _ => ?_))
      | exact ih0 _ _ _ _ _
      | exact ih1 _ _ _ _
      | exact ih2 _ _ _ _ _ _ _ _ _
      | exact ih3 _ _ _ _ _ _ _ _ _ _ _ _ _ _
      | exact complex_Check.mono _ _ _
      | exact slices_Equal_int_int.mono _ _ _
      | exact LeO.none _
      | refine LeO.ite ?_ ?_
      | refine LeO.bind ?_ (fun _ => ?_)
    · intro y0 y1 y2 y3 y4 y5 y6 y7 y8
      unfold complex_Shells.l2
      repeat' first
      | (with_reducible exact ih0 _ _ _ _ _)
      | (with_reducible exact ih1 _ _ _ _)
      | (with_reducible exact ih2 _ _ _ _ _ _ _ _ _)
      | (with_reducible exact ih3 _ _ _ _ _ _ _ _ _ _ _ _ _ _)
      | (with_reducible exact complex_Check.mono _ _ _)
      | (with_reducible exact slices_Equal_int_int.mono _ _ _)
      | (with_reducible exact LeO.refl _)
      | (with_reducible exact LeO.none _)
      | (with_reducible refine LeO.ite ?_ ?_)
      | (with_reducible refine LeO.bind ?_ (fun _ => ?_))
      | exact ih0 _ _ _ _ _
      | exact ih1 _ _ _ _
      | exact ih2 _ _ _ _ _ _ _ _ _
      | exact ih3 _ _ _ _ _ _ _ _ _ _ _ _ _ _
      | exact complex_Check.mono _ _ _
      | exact slices_Equal_int_int.mono _ _ _
      | exact LeO.none _
      | refine LeO.ite ?_ ?_
      | refine LeO.bind ?_ (fun _ => ?_)
    · intro y0 y1 y2 y3 y4 y5 y6 y7 y8 y9 y10 y11 y12 y13
      unfold complex_Shells.l3
      repeat' first
      | (with_reducible exact ih0 _ _ _ _ _)
      | (with_reducible exact ih1 _ _ _ _)
      | (with_reducible exact ih2 _ _ _ _ _ _ _ _ _)
      | (with_reducible exact ih3 _ _ _ _ _ _ _ _ _ _ _ _ _ _)
      | (with_reducible exact complex_Check.mono _ _ _)
      | (with_reducible exact slices_Equal_int_int.mono _ _ _)
      | (with_reducible exact LeO.refl _)
      | (with_reducible exact LeO.none _)
      | (with_reducible refine LeO.ite ?_ ?_)
      | (with_reducible refine LeO.bind ?_ (fun _ => ?_))
      | exact ih0 _ _ _ _ _
      | exact ih1 _ _ _ _
      | exact ih2 _ _ _ _ _ _ _ _ _
      | exact ih3 _ _ _ _ _ _ _ _ _ _ _ _ _ _
      | exact complex_Check.mono _ _ _
      | exact slices_Equal_int_int.mono _ _ _
      | exact LeO.none _
      | refine LeO.ite ?_ ?_
      | refine LeO.bind ?_ (fun _ => ?_)
theorem complex_Shells.mono : ∀ a0 a1 a2 k, LeO (complex_Shells.f k a0 a1 a2) (complex_Shells.f (k + 1) a0 a1 a2) := by
  intro a0 a1 a2 k
  obtain ⟨ih0, ih1, ih2, ih3⟩ := complex_Shells.mono_l k
  unfold complex_Shells.f
  repeat' first
      | (with_reducible exact ih0 _ _ _ _ _)
      | (with_reducible exact ih1 _ _ _ _)
      | (with_reducible exact ih2 _ _ _ _ _ _ _ _ _)
      | (with_reducible exact ih3 _ _ _ _ _ _ _ _ _ _ _ _ _ _)
      | (with_reducible exact complex_Check.mono _ _ _)
      | (with_reducible exact slices_Equal_int_int.mono _ _ _)
      | (with_reducible exact LeO.refl _)
      | (with_reducible exact LeO.none _)
      | (with_reducible refine LeO.ite ?_ ?_)
      | (with_reducible refine LeO.bind ?_ (fun _ => ?_))
      | exact ih0 _ _ _ _ _
      | exact ih1 _ _ _ _
      | exact ih2 _ _ _ _ _ _ _ _ _
      | exact ih3 _ _ _ _ _ _ _ _ _ _ _ _ _ _
      | exact complex_Check.mono _ _ _
      | exact slices_Equal_int_int.mono _ _ _
      | exact LeO.none _
      | refine LeO.ite ?_ ?_
      | refine LeO.bind ?_ (fun _ => ?_)
set_option maxHeartbeats 8000000 in
set_option maxRecDepth 100000 in
theorem complex_Shells.calls (k : Nat) (a0 : Int) (A1 : Option Addr) (c1 : Nat) (l1 : List Int) (A2 : Option Addr) (c2 : Nat) (l2 : List Int) (r1 : Bool) (r2 : Int) (w : World) (hr1 : Kd.C (Kd.int .i64) w A1 l1.length l1) (hc1 : l1.length ≤ c1) (hr2 : Kd.C (Kd.int .i64) w A2 l2.length l2) (hc2 : l2.length ≤ c2) (h : complex_Shells.f k a0 l1 l2 = some (r1, r2)) :
    Calls Try.prog 14 #[.int .i64 a0, .slice A1 l1.length c1, .slice A2 l2.length c2] w fun e w' => e = .returned (.tuple #[.bool r1, .int .i64 r2]) ∧ Below w.heap.size w w' := by
  have HR1 := Aside0.mk hr1
  have HC1 := Aside0.mk hc1
  clear hr1 hc1
  have HR2 := Aside0.mk hr2
  have HC2 := Aside0.mk hc2
  clear hr2 hc2
  have HB := Aside0.mk (Below.refl w.heap.size w)
  have H : ((complex_Check.f k a0 l1).bind fun t158 => (if t158 = 0 then ((Ext.Clone.f l2).bind fun t159 => ((Ext.Sort.f t159).bind fun t162 => ((slices_Equal_int_int.f k t162 l1).bind fun t163 => (if t163 = true then (complex_Shells.l0 k l1 l2 l1 (l1.length : Int) 0) else (some (false, 1)))))) else (some (false, t158)))) = some (r1, r2) := h
  clear h
  replace H := Option.bind_eq_some_iff.mp H
  obtain ⟨t158, A40, H⟩ := H
  replace H : (if t158 = 0 then ((Ext.Clone.f l2).bind fun t159 => ((Ext.Sort.f t159).bind fun t162 => ((slices_Equal_int_int.f k t162 l1).bind fun t163 => (if t163 = true then (complex_Shells.l0 k l1 l2 l1 (l1.length : Int) 0) else (some (false, 1)))))) else (some (false, t158))) = some (r1, r2) := H
  have A4 := Aside0.mk A40
  clear A40
  by_cases c5 : t158 = 0
  · rw [if_pos c5] at H
    have c5b0 : (t158 == 0) = true := beq_iff_eq.mpr c5
    have c5b1 : (t158 != 0) = false := bne_eq_false_iff_eq.mpr c5
    clear c5
    replace H := Option.bind_eq_some_iff.mp H
    obtain ⟨t159, A60, H⟩ := H
    replace H : ((Ext.Sort.f t159).bind fun t162 => ((slices_Equal_int_int.f k t162 l1).bind fun t163 => (if t163 = true then (complex_Shells.l0 k l1 l2 l1 (l1.length : Int) 0) else (some (false, 1))))) = some (r1, r2) := H
    have A6 := Aside0.mk A60
    clear A60
    replace H := Option.bind_eq_some_iff.mp H
    obtain ⟨t162, A70, H⟩ := H
    replace H : ((slices_Equal_int_int.f k t162 l1).bind fun t163 => (if t163 = true then (complex_Shells.l0 k l1 l2 l1 (l1.length : Int) 0) else (some (false, 1)))) = some (r1, r2) := H
    have A7 := Aside0.mk A70
    clear A70
    replace H := Option.bind_eq_some_iff.mp H
    obtain ⟨t163, A80, H⟩ := H
    replace H : (if t163 = true then (complex_Shells.l0 k l1 l2 l1 (l1.length : Int) 0) else (some (false, 1))) = some (r1, r2) := H
    have A8 := Aside0.mk A80
    clear A80
    by_cases c9 : t163 = true
    · subst c9
      have H1 : (complex_Shells.l0 k l1 l2 l1 (l1.length : Int) 0) = some (r1, r2) := by rw [if_pos rfl] at H; exact H
      clear H
      have H := H1
      clear H1
      have H' := Aside0.mk H
      clear H
      go_enter Try.func14, Try.ntmps14
      go_wp2_with (first | (go_at_call 39; (with_reducible refine (complex_Check.calls k a0 _ _ l1 t158 _ ?side1 ?side2 A4.out).mono ?_); (case side1 => repeat (first | exact HR1.out | (with_reducible refine Kd.C_alloc ?_ _) | (with_reducible refine Kd.C_drewN ?_ _) | (with_reducible refine Kd.C_drew ?_))); (case side2 => exact HC1.out); rintro e w' ⟨rfl, ⟨nd, rfl⟩⟩; (try first | exact ⟨rfl, _, World.drewN_drewN _ _ _⟩ | exact ⟨rfl, _, Eq.trans (World.drewN_drewN _ _ _) (congrArg (World.drewN _) (Nat.add_assoc _ _ _))⟩)) | (go_at_call 36; (with_reducible refine (Ext.Clone.calls _ _ l2 t159 _ ?side1 ?side2 A6.out).mono ?_); (case side1 => repeat (first | exact HR2.out | (with_reducible refine Kd.C_alloc ?_ _) | (with_reducible refine Kd.C_drewN ?_ _) | (with_reducible refine Kd.C_drew ?_))); (case side2 => exact HC2.out); rintro e w10 ⟨v160, rfl, ho0, hb⟩; have n0_ := Aside0.mk (Kd.R_lower ho0 (below_size (by repeat (first | (with_reducible first | exact HB.out | apply below_alloc | apply pw_below_drewN | apply below_drew1) | exact HB.out)))); have n1_ := Aside0.mk (below_step (by repeat (first | (with_reducible first | exact HB.out | apply below_alloc | apply pw_below_drewN | apply below_drew1) | exact HB.out)) hb); clear HB; have HO161 := n0_; have HB := n1_; clear n0_ n1_; (try clear hb); (try clear hb2); (try clear hk); (try clear hi); (try clear ho0); obtain ⟨Ao11, co11, eo11⟩ := Kd.R_slice HO161.out; subst eo11) | (go_at_call 40; (with_reducible refine (Ext.Sort.calls (fun k_ => some k_ = (.slice Ao11 t159.length co11 : Value).ownBlock) (.slice Ao11 t159.length co11) t159 t162 w _ ?side1 ?side2 A7.out).mono ?_); (case side1 => repeat (first | (with_reducible first | exact HB.out | apply below_alloc | apply pw_below_drewN | apply below_drew1) | exact HB.out)); (case side2 => exact Kd.R_tight rfl HO161.out); rintro e w12 ⟨rfl, hy0, hb, hkp⟩; have n0_ := Aside0.mk (Kd.R_reok rfl hy0 (fun k_ e_ => HO161.out.1 k_ e_)); have n1_ := Aside0.mk (hb); clear HO161; clear HB; have HO161 := n0_; have HB := n1_; clear n0_ n1_; (try clear hb); (try clear hkp); (try clear hy0)) | (go_at_call 41; refine calls_of_args (args' := #[.slice Ao11 t162.length co11, .slice A1 l1.length c1]) (by first | (rw [show t162.length = t159.length from (Kd.R_reads' HO161.out).1.symm] <;> rfl) | rfl) ?_; (with_reducible refine (slices_Equal_int_int.calls k _ _ t162 _ _ l1 true _ ?side1 ?side2 ?side3 ?side4 A8.out).mono ?_); (case side1 => repeat (first | exact (Kd.R_reads' HO161.out).2.2 | (with_reducible refine Kd.C_alloc ?_ _) | (with_reducible refine Kd.C_drewN ?_ _) | (with_reducible refine Kd.C_drew ?_))); (case side2 => rw [show t162.length = t159.length from (Kd.R_reads' HO161.out).1.symm]; exact (Kd.R_reads' HO161.out).2.1); (case side3 => repeat (first | exact (Kd.C_below HR1.out HB.out) | (with_reducible refine Kd.C_alloc ?_ _) | (with_reducible refine Kd.C_drewN ?_ _) | (with_reducible refine Kd.C_drew ?_))); (case side4 => exact HC1.out); rintro e w' ⟨rfl, ⟨nd, rfl⟩⟩; (try first | exact ⟨rfl, _, World.drewN_drewN _ _ _⟩ | exact ⟨rfl, _, Eq.trans (World.drewN_drewN _ _ _) (congrArg (World.drewN _) (Nat.add_assoc _ _ _))⟩)))
      repeat (go_quiet (first | (go_at_call 39; (with_reducible refine (complex_Check.calls k a0 _ _ l1 t158 _ ?side1 ?side2 A4.out).mono ?_); (case side1 => repeat (first | exact HR1.out | (with_reducible refine Kd.C_alloc ?_ _) | (with_reducible refine Kd.C_drewN ?_ _) | (with_reducible refine Kd.C_drew ?_))); (case side2 => exact HC1.out); rintro e w' ⟨rfl, ⟨nd, rfl⟩⟩; (try first | exact ⟨rfl, _, World.drewN_drewN _ _ _⟩ | exact ⟨rfl, _, Eq.trans (World.drewN_drewN _ _ _) (congrArg (World.drewN _) (Nat.add_assoc _ _ _))⟩)) | (go_at_call 36; (with_reducible refine (Ext.Clone.calls _ _ l2 t159 _ ?side1 ?side2 A6.out).mono ?_); (case side1 => repeat (first | exact HR2.out | (with_reducible refine Kd.C_alloc ?_ _) | (with_reducible refine Kd.C_drewN ?_ _) | (with_reducible refine Kd.C_drew ?_))); (case side2 => exact HC2.out); rintro e w10 ⟨v160, rfl, ho0, hb⟩; have n0_ := Aside0.mk (Kd.R_lower ho0 (below_size (by repeat (first | (with_reducible first | exact HB.out | apply below_alloc | apply pw_below_drewN | apply below_drew1) | exact HB.out)))); have n1_ := Aside0.mk (below_step (by repeat (first | (with_reducible first | exact HB.out | apply below_alloc | apply pw_below_drewN | apply below_drew1) | exact HB.out)) hb); clear HB; have HO161 := n0_; have HB := n1_; clear n0_ n1_; (try clear hb); (try clear hb2); (try clear hk); (try clear hi); (try clear ho0); obtain ⟨Ao11, co11, eo11⟩ := Kd.R_slice HO161.out; subst eo11) | (go_at_call 40; (with_reducible refine (Ext.Sort.calls (fun k_ => some k_ = (.slice Ao11 t159.length co11 : Value).ownBlock) (.slice Ao11 t159.length co11) t159 t162 w _ ?side1 ?side2 A7.out).mono ?_); (case side1 => repeat (first | (with_reducible first | exact HB.out | apply below_alloc | apply pw_below_drewN | apply below_drew1) | exact HB.out)); (case side2 => exact Kd.R_tight rfl HO161.out); rintro e w12 ⟨rfl, hy0, hb, hkp⟩; have n0_ := Aside0.mk (Kd.R_reok rfl hy0 (fun k_ e_ => HO161.out.1 k_ e_)); have n1_ := Aside0.mk (hb); clear HO161; clear HB; have HO161 := n0_; have HB := n1_; clear n0_ n1_; (try clear hb); (try clear hkp); (try clear hy0)) | (go_at_call 41; refine calls_of_args (args' := #[.slice Ao11 t162.length co11, .slice A1 l1.length c1]) (by first | (rw [show t162.length = t159.length from (Kd.R_reads' HO161.out).1.symm] <;> rfl) | rfl) ?_; (with_reducible refine (slices_Equal_int_int.calls k _ _ t162 _ _ l1 true _ ?side1 ?side2 ?side3 ?side4 A8.out).mono ?_); (case side1 => repeat (first | exact (Kd.R_reads' HO161.out).2.2 | (with_reducible refine Kd.C_alloc ?_ _) | (with_reducible refine Kd.C_drewN ?_ _) | (with_reducible refine Kd.C_drew ?_))); (case side2 => rw [show t162.length = t159.length from (Kd.R_reads' HO161.out).1.symm]; exact (Kd.R_reads' HO161.out).2.1); (case side3 => repeat (first | exact (Kd.C_below HR1.out HB.out) | (with_reducible refine Kd.C_alloc ?_ _) | (with_reducible refine Kd.C_drewN ?_ _) | (with_reducible refine Kd.C_drew ?_))); (case side4 => exact HC1.out); rintro e w' ⟨rfl, ⟨nd, rfl⟩⟩; (try first | exact ⟨rfl, _, World.drewN_drewN _ _ _⟩ | exact ⟨rfl, _, Eq.trans (World.drewN_drewN _ _ _) (congrArg (World.drewN _) (Nat.add_assoc _ _ _))⟩))); try go_wp2_with (first | (go_at_call 39; (with_reducible refine (complex_Check.calls k a0 _ _ l1 t158 _ ?side1 ?side2 A4.out).mono ?_); (case side1 => repeat (first | exact HR1.out | (with_reducible refine Kd.C_alloc ?_ _) | (with_reducible refine Kd.C_drewN ?_ _) | (with_reducible refine Kd.C_drew ?_))); (case side2 => exact HC1.out); rintro e w' ⟨rfl, ⟨nd, rfl⟩⟩; (try first | exact ⟨rfl, _, World.drewN_drewN _ _ _⟩ | exact ⟨rfl, _, Eq.trans (World.drewN_drewN _ _ _) (congrArg (World.drewN _) (Nat.add_assoc _ _ _))⟩)) | (go_at_call 36; (with_reducible refine (Ext.Clone.calls _ _ l2 t159 _ ?side1 ?side2 A6.out).mono ?_); (case side1 => repeat (first | exact HR2.out | (with_reducible refine Kd.C_alloc ?_ _) | (with_reducible refine Kd.C_drewN ?_ _) | (with_reducible refine Kd.C_drew ?_))); (case side2 => exact HC2.out); rintro e w10 ⟨v160, rfl, ho0, hb⟩; have n0_ := Aside0.mk (Kd.R_lower ho0 (below_size (by repeat (first | (with_reducible first | exact HB.out | apply below_alloc | apply pw_below_drewN | apply below_drew1) | exact HB.out)))); have n1_ := Aside0.mk (below_step (by repeat (first | (with_reducible first | exact HB.out | apply below_alloc | apply pw_below_drewN | apply below_drew1) | exact HB.out)) hb); clear HB; have HO161 := n0_; have HB := n1_; clear n0_ n1_; (try clear hb); (try clear hb2); (try clear hk); (try clear hi); (try clear ho0); obtain ⟨Ao11, co11, eo11⟩ := Kd.R_slice HO161.out; subst eo11) | (go_at_call 40; (with_reducible refine (Ext.Sort.calls (fun k_ => some k_ = (.slice Ao11 t159.length co11 : Value).ownBlock) (.slice Ao11 t159.length co11) t159 t162 w _ ?side1 ?side2 A7.out).mono ?_); (case side1 => repeat (first | (with_reducible first | exact HB.out | apply below_alloc | apply pw_below_drewN | apply below_drew1) | exact HB.out)); (case side2 => exact Kd.R_tight rfl HO161.out); rintro e w12 ⟨rfl, hy0, hb, hkp⟩; have n0_ := Aside0.mk (Kd.R_reok rfl hy0 (fun k_ e_ => HO161.out.1 k_ e_)); have n1_ := Aside0.mk (hb); clear HO161; clear HB; have HO161 := n0_; have HB := n1_; clear n0_ n1_; (try clear hb); (try clear hkp); (try clear hy0)) | (go_at_call 41; refine calls_of_args (args' := #[.slice Ao11 t162.length co11, .slice A1 l1.length c1]) (by first | (rw [show t162.length = t159.length from (Kd.R_reads' HO161.out).1.symm] <;> rfl) | rfl) ?_; (with_reducible refine (slices_Equal_int_int.calls k _ _ t162 _ _ l1 true _ ?side1 ?side2 ?side3 ?side4 A8.out).mono ?_); (case side1 => repeat (first | exact (Kd.R_reads' HO161.out).2.2 | (with_reducible refine Kd.C_alloc ?_ _) | (with_reducible refine Kd.C_drewN ?_ _) | (with_reducible refine Kd.C_drew ?_))); (case side2 => rw [show t162.length = t159.length from (Kd.R_reads' HO161.out).1.symm]; exact (Kd.R_reads' HO161.out).2.1); (case side3 => repeat (first | exact (Kd.C_below HR1.out HB.out) | (with_reducible refine Kd.C_alloc ?_ _) | (with_reducible refine Kd.C_drewN ?_ _) | (with_reducible refine Kd.C_drew ?_))); (case side4 => exact HC1.out); rintro e w' ⟨rfl, ⟨nd, rfl⟩⟩; (try first | exact ⟨rfl, _, World.drewN_drewN _ _ _⟩ | exact ⟨rfl, _, Eq.trans (World.drewN_drewN _ _ _) (congrArg (World.drewN _) (Nat.add_assoc _ _ _))⟩))))
      go_loopg [35] k (fun kq v35 w' => ∃ (x35_1 : Int), v35 = .int .i64 x35_1 ∧ Aside0 (complex_Shells.l0 kq l1 l2 l1 (l1.length : Int) x35_1 = some (r1, r2)) ∧ Aside0 (kq ≤ k) ∧ Aside0 (Below w.heap.size w w'))
      case atStart => exact ⟨(0), (by first | rfl | (simp; done) | (simp [*]; done)), H', ⟨Nat.le_refl _⟩, ⟨by repeat (first | (with_reducible first | exact HB.out | apply below_alloc | apply pw_below_drewN | apply below_drew1) | exact HB.out)⟩⟩
      case round =>
        clear H'
        try clear c1
        try clear c2
        try clear p2
        try clear c5
        try clear c5b0
        try clear c5b1
        try clear c9
        obtain ⟨x35_1, rfl, HA, HK1, HB⟩ := hrel
        cases gk with
        | zero => exact absurd HA.out (by simp [complex_Shells.l0])
        | succ k1 =>
          have H := HA.out
          clear HA
          simp only [complex_Shells.l0] at H
          by_cases c13 : x35_1 < (l1.length : Int)
          · rw [if_pos c13] at H
            have c13b0 : decide (x35_1 < (l1.length : Int)) = true := decide_eq_true c13
            clear c13
            by_cases c14 : 0 ≤ x35_1
            · rw [if_pos c14] at H
              have c14b0 : decide (0 ≤ x35_1) = true := decide_eq_true c14
              clear c14
              by_cases c15 : x35_1 < (l1.length : Int)
              · rw [if_pos c15] at H
                have c15b0 : decide (x35_1 < (l1.length : Int)) = true := decide_eq_true c15
                clear c15
                replace H := Option.bind_eq_some_iff.mp H
                obtain ⟨t165, A160, H⟩ := H
                replace H : (if 0 < (l1.length : Int) then ((complex_size.f (rd l1 0)).bind fun t167 => (if t165 = t167 then (complex_Shells.l0 k1 l1 l2 l1 (l1.length : Int) (wrap64 (x35_1 + 1))) else (some (false, 3)))) else (none)) = some (r1, r2) := H
                have A16 := Aside0.mk A160
                clear A160
                by_cases c17 : 0 < (l1.length : Int)
                · rw [if_pos c17] at H
                  have c17b0 : decide (0 < (l1.length : Int)) = true := decide_eq_true c17
                  have c17b1 : decide (0 < l1.length) = true := decide_eq_true (by omega)
                  clear c17
                  replace H := Option.bind_eq_some_iff.mp H
                  obtain ⟨t167, A180, H⟩ := H
                  replace H : (if t165 = t167 then (complex_Shells.l0 k1 l1 l2 l1 (l1.length : Int) (wrap64 (x35_1 + 1))) else (some (false, 3))) = some (r1, r2) := H
                  have A18 := Aside0.mk A180
                  clear A180
                  by_cases c19 : t165 = t167
                  · rw [if_pos c19] at H
                    have c19b0 : (t165 == t167) = true := beq_iff_eq.mpr c19
                    have c19b1 : (t165 != t167) = false := bne_eq_false_iff_eq.mpr c19
                    clear c19
                    have H' := Aside0.mk H
                    clear H
                    have p164 : 0 ≤ (x35_1 : Int) := of_decide_eq_true (by first | (with_reducible assumption) | assumption)
                    have q164 : x35_1 < (l1.length : Int) := of_decide_eq_true (by first | (with_reducible assumption) | assumption)
                    obtain ⟨ad164, e164, hx164_0⟩ := Kd.at_int HR1.out x35_1 p164 q164
                    cases e164
                    replace hx164_0 := (HB.out.cell (World.block_lt_of_cell? w _ hx164_0)).trans hx164_0
                    replace p164 := eq_true p164
                    replace q164 := eq_true q164
                    go_wp2_with (first | (go_at_call 42; (with_reducible refine (complex_size.calls (rd l1 x35_1) t165 _ A16.out).mono ?_); rintro e w' ⟨rfl, ⟨nd, rfl⟩⟩; (try first | exact ⟨rfl, _, World.drewN_drewN _ _ _⟩ | exact ⟨rfl, _, Eq.trans (World.drewN_drewN _ _ _) (congrArg (World.drewN _) (Nat.add_assoc _ _ _))⟩); have p166 : 0 ≤ (0 : Int) := (by omega); have q166 : 0 < (l1.length : Int) := of_decide_eq_true (by first | (with_reducible assumption) | assumption); obtain ⟨ad166, e166, hx166_0⟩ := Kd.at_int HR1.out 0 p166 q166; obtain rfl : ad164 = ad166 := (by injection e166); have qi166 : (0 < l1.length) = True := eq_true (by omega); (try rw [show ((0 : Int)).toNat = 0 from rfl] at hx166_0); (try rw [Addr.add_zero'] at hx166_0); replace hx166_0 := (HB.out.cell (World.block_lt_of_cell? w _ hx166_0)).trans hx166_0; replace p166 := eq_true p166; replace q166 := eq_true q166) | (go_at_call 42; (with_reducible refine (complex_size.calls (rd l1 0) t167 _ A18.out).mono ?_); rintro e w' ⟨rfl, ⟨nd, rfl⟩⟩; (try first | exact ⟨rfl, _, World.drewN_drewN _ _ _⟩ | exact ⟨rfl, _, Eq.trans (World.drewN_drewN _ _ _) (congrArg (World.drewN _) (Nat.add_assoc _ _ _))⟩)))
                    repeat (go_quiet (first | (go_at_call 42; (with_reducible refine (complex_size.calls (rd l1 x35_1) t165 _ A16.out).mono ?_); rintro e w' ⟨rfl, ⟨nd, rfl⟩⟩; (try first | exact ⟨rfl, _, World.drewN_drewN _ _ _⟩ | exact ⟨rfl, _, Eq.trans (World.drewN_drewN _ _ _) (congrArg (World.drewN _) (Nat.add_assoc _ _ _))⟩); have p166 : 0 ≤ (0 : Int) := (by omega); have q166 : 0 < (l1.length : Int) := of_decide_eq_true (by first | (with_reducible assumption) | assumption); obtain ⟨ad166, e166, hx166_0⟩ := Kd.at_int HR1.out 0 p166 q166; obtain rfl : ad164 = ad166 := (by injection e166); have qi166 : (0 < l1.length) = True := eq_true (by omega); (try rw [show ((0 : Int)).toNat = 0 from rfl] at hx166_0); (try rw [Addr.add_zero'] at hx166_0); replace hx166_0 := (HB.out.cell (World.block_lt_of_cell? w _ hx166_0)).trans hx166_0; replace p166 := eq_true p166; replace q166 := eq_true q166) | (go_at_call 42; (with_reducible refine (complex_size.calls (rd l1 0) t167 _ A18.out).mono ?_); rintro e w' ⟨rfl, ⟨nd, rfl⟩⟩; (try first | exact ⟨rfl, _, World.drewN_drewN _ _ _⟩ | exact ⟨rfl, _, Eq.trans (World.drewN_drewN _ _ _) (congrArg (World.drewN _) (Nat.add_assoc _ _ _))⟩))); try go_wp2_with (first | (go_at_call 42; (with_reducible refine (complex_size.calls (rd l1 x35_1) t165 _ A16.out).mono ?_); rintro e w' ⟨rfl, ⟨nd, rfl⟩⟩; (try first | exact ⟨rfl, _, World.drewN_drewN _ _ _⟩ | exact ⟨rfl, _, Eq.trans (World.drewN_drewN _ _ _) (congrArg (World.drewN _) (Nat.add_assoc _ _ _))⟩); have p166 : 0 ≤ (0 : Int) := (by omega); have q166 : 0 < (l1.length : Int) := of_decide_eq_true (by first | (with_reducible assumption) | assumption); obtain ⟨ad166, e166, hx166_0⟩ := Kd.at_int HR1.out 0 p166 q166; obtain rfl : ad164 = ad166 := (by injection e166); have qi166 : (0 < l1.length) = True := eq_true (by omega); (try rw [show ((0 : Int)).toNat = 0 from rfl] at hx166_0); (try rw [Addr.add_zero'] at hx166_0); replace hx166_0 := (HB.out.cell (World.block_lt_of_cell? w _ hx166_0)).trans hx166_0; replace p166 := eq_true p166; replace q166 := eq_true q166) | (go_at_call 42; (with_reducible refine (complex_size.calls (rd l1 0) t167 _ A18.out).mono ?_); rintro e w' ⟨rfl, ⟨nd, rfl⟩⟩; (try first | exact ⟨rfl, _, World.drewN_drewN _ _ _⟩ | exact ⟨rfl, _, Eq.trans (World.drewN_drewN _ _ _) (congrArg (World.drewN _) (Nat.add_assoc _ _ _))⟩))))
                    go_roundg k1
                    case measure => have := HK1.out; omega
                    case rel => exact ⟨(wrap64 (x35_1 + 1)), (by first | rfl | (simp; done) | (simp [*]; done)), H', ⟨by have := HK1.out; omega⟩, ⟨by repeat (first | (with_reducible first | exact HB.out | apply below_alloc | apply pw_below_drewN | apply below_drew1) | exact HB.out)⟩⟩
                  · rw [if_neg c19] at H
                    have c19b0 : (t165 == t167) = false := beq_eq_false_iff_ne.mpr c19
                    have c19b1 : (t165 != t167) = true := bne_iff_ne.mpr c19
                    simp only [Option.some.injEq, Prod.mk.injEq] at H
                    obtain ⟨rfl, rfl⟩ := H
                    have p164 : 0 ≤ (x35_1 : Int) := of_decide_eq_true (by first | (with_reducible assumption) | assumption)
                    have q164 : x35_1 < (l1.length : Int) := of_decide_eq_true (by first | (with_reducible assumption) | assumption)
                    obtain ⟨ad164, e164, hx164_0⟩ := Kd.at_int HR1.out x35_1 p164 q164
                    cases e164
                    replace hx164_0 := (HB.out.cell (World.block_lt_of_cell? w _ hx164_0)).trans hx164_0
                    replace p164 := eq_true p164
                    replace q164 := eq_true q164
                    go_wp2_with (first | (go_at_call 42; (with_reducible refine (complex_size.calls (rd l1 x35_1) t165 _ A16.out).mono ?_); rintro e w' ⟨rfl, ⟨nd, rfl⟩⟩; (try first | exact ⟨rfl, _, World.drewN_drewN _ _ _⟩ | exact ⟨rfl, _, Eq.trans (World.drewN_drewN _ _ _) (congrArg (World.drewN _) (Nat.add_assoc _ _ _))⟩); have p166 : 0 ≤ (0 : Int) := (by omega); have q166 : 0 < (l1.length : Int) := of_decide_eq_true (by first | (with_reducible assumption) | assumption); obtain ⟨ad166, e166, hx166_0⟩ := Kd.at_int HR1.out 0 p166 q166; obtain rfl : ad164 = ad166 := (by injection e166); have qi166 : (0 < l1.length) = True := eq_true (by omega); (try rw [show ((0 : Int)).toNat = 0 from rfl] at hx166_0); (try rw [Addr.add_zero'] at hx166_0); replace hx166_0 := (HB.out.cell (World.block_lt_of_cell? w _ hx166_0)).trans hx166_0; replace p166 := eq_true p166; replace q166 := eq_true q166) | (go_at_call 42; (with_reducible refine (complex_size.calls (rd l1 0) t167 _ A18.out).mono ?_); rintro e w' ⟨rfl, ⟨nd, rfl⟩⟩; (try first | exact ⟨rfl, _, World.drewN_drewN _ _ _⟩ | exact ⟨rfl, _, Eq.trans (World.drewN_drewN _ _ _) (congrArg (World.drewN _) (Nat.add_assoc _ _ _))⟩)))
                    repeat (go_quiet (first | (go_at_call 42; (with_reducible refine (complex_size.calls (rd l1 x35_1) t165 _ A16.out).mono ?_); rintro e w' ⟨rfl, ⟨nd, rfl⟩⟩; (try first | exact ⟨rfl, _, World.drewN_drewN _ _ _⟩ | exact ⟨rfl, _, Eq.trans (World.drewN_drewN _ _ _) (congrArg (World.drewN _) (Nat.add_assoc _ _ _))⟩); have p166 : 0 ≤ (0 : Int) := (by omega); have q166 : 0 < (l1.length : Int) := of_decide_eq_true (by first | (with_reducible assumption) | assumption); obtain ⟨ad166, e166, hx166_0⟩ := Kd.at_int HR1.out 0 p166 q166; obtain rfl : ad164 = ad166 := (by injection e166); have qi166 : (0 < l1.length) = True := eq_true (by omega); (try rw [show ((0 : Int)).toNat = 0 from rfl] at hx166_0); (try rw [Addr.add_zero'] at hx166_0); replace hx166_0 := (HB.out.cell (World.block_lt_of_cell? w _ hx166_0)).trans hx166_0; replace p166 := eq_true p166; replace q166 := eq_true q166) | (go_at_call 42; (with_reducible refine (complex_size.calls (rd l1 0) t167 _ A18.out).mono ?_); rintro e w' ⟨rfl, ⟨nd, rfl⟩⟩; (try first | exact ⟨rfl, _, World.drewN_drewN _ _ _⟩ | exact ⟨rfl, _, Eq.trans (World.drewN_drewN _ _ _) (congrArg (World.drewN _) (Nat.add_assoc _ _ _))⟩))); try go_wp2_with (first | (go_at_call 42; (with_reducible refine (complex_size.calls (rd l1 x35_1) t165 _ A16.out).mono ?_); rintro e w' ⟨rfl, ⟨nd, rfl⟩⟩; (try first | exact ⟨rfl, _, World.drewN_drewN _ _ _⟩ | exact ⟨rfl, _, Eq.trans (World.drewN_drewN _ _ _) (congrArg (World.drewN _) (Nat.add_assoc _ _ _))⟩); have p166 : 0 ≤ (0 : Int) := (by omega); have q166 : 0 < (l1.length : Int) := of_decide_eq_true (by first | (with_reducible assumption) | assumption); obtain ⟨ad166, e166, hx166_0⟩ := Kd.at_int HR1.out 0 p166 q166; obtain rfl : ad164 = ad166 := (by injection e166); have qi166 : (0 < l1.length) = True := eq_true (by omega); (try rw [show ((0 : Int)).toNat = 0 from rfl] at hx166_0); (try rw [Addr.add_zero'] at hx166_0); replace hx166_0 := (HB.out.cell (World.block_lt_of_cell? w _ hx166_0)).trans hx166_0; replace p166 := eq_true p166; replace q166 := eq_true q166) | (go_at_call 42; (with_reducible refine (complex_size.calls (rd l1 0) t167 _ A18.out).mono ?_); rintro e w' ⟨rfl, ⟨nd, rfl⟩⟩; (try first | exact ⟨rfl, _, World.drewN_drewN _ _ _⟩ | exact ⟨rfl, _, Eq.trans (World.drewN_drewN _ _ _) (congrArg (World.drewN _) (Nat.add_assoc _ _ _))⟩))))
                    go_ret2
                    exact ⟨by first | rfl | (simp [errW_none, errW_some] <;> rfl) | (simp [*, errW_none, errW_some] <;> rfl), by repeat (first | (with_reducible first | exact HB.out | apply below_alloc | apply pw_below_drewN | apply below_drew1) | exact HB.out)⟩
                · rw [if_neg c17] at H
                  exact absurd H (by simp)
              · rw [if_neg c15] at H
                exact absurd H (by simp)
            · rw [if_neg c14] at H
              exact absurd H (by simp)
          · rw [if_neg c13] at H
            have c13b0 : decide (x35_1 < (l1.length : Int)) = false := decide_eq_false c13
            clear c13
            have H' := Aside0.mk H
            clear H
            go_wp2
            repeat (go_quiet (fail); try go_wp2)
            go_loopg [49] k1 (fun kq v49 w' => ∃ (x49_2 : Int), v49 = .int .i64 x49_2 ∧ Aside0 (complex_Shells.l1 kq l2 l2 (l2.length : Int) x49_2 = some (r1, r2)) ∧ Aside0 (kq ≤ k1) ∧ Aside0 (Below w.heap.size w w'))
            case atStart => exact ⟨(0), (by first | rfl | (simp; done) | (simp [*]; done)), H', ⟨Nat.le_refl _⟩, ⟨by repeat (first | (with_reducible first | exact HB.out | apply below_alloc | apply pw_below_drewN | apply below_drew1) | exact HB.out)⟩⟩
            case round =>
              clear H'
              try clear c1
              try clear p1
              try clear q1
              try clear hx1
              try clear qi1
              try clear c2
              try clear p2
              try clear c5
              try clear c5b0
              try clear c5b1
              try clear p6
              try clear c9
              try clear c13
              try clear c13b0
              try clear c14
              try clear c14b0
              try clear c15
              try clear c15b0
              try clear p16
              try clear q16
              try clear hx16
              try clear qi16
              try clear c17
              try clear c17b0
              try clear c17b1
              try clear c19
              try clear c19b0
              try clear c19b1
              try clear hx164_0
              try clear hx166_0
              try clear p164
              try clear p166
              try clear p2
              try clear q164
              try clear q166
              obtain ⟨x49_2, rfl, HA, HK2, HB⟩ := hrel
              cases gk with
              | zero => exact absurd HA.out (by simp [complex_Shells.l1])
              | succ k2 =>
                have H := HA.out
                clear HA
                simp only [complex_Shells.l1] at H
                by_cases c20 : x49_2 < (l2.length : Int)
                · rw [if_pos c20] at H
                  have c20b0 : decide (x49_2 < (l2.length : Int)) = true := decide_eq_true c20
                  clear c20
                  by_cases c21 : 0 ≤ x49_2
                  · rw [if_pos c21] at H
                    have c21b0 : decide (0 ≤ x49_2) = true := decide_eq_true c21
                    clear c21
                    by_cases c22 : x49_2 < (l2.length : Int)
                    · rw [if_pos c22] at H
                      have c22b0 : decide (x49_2 < (l2.length : Int)) = true := decide_eq_true c22
                      clear c22
                      have c23b0 := eq_true (of_decide_eq_true (by first | (with_reducible assumption) | assumption) : 0 ≤ x49_2)
                      by_cases c24 : x49_2 ≤ (l2.length : Int)
                      · rw [if_pos c24] at H
                        have c24b0 := eq_true c24
                        have c24b1 : decide (x49_2 ≤ (l2.length : Int)) = true := decide_eq_true c24
                        have gk_x49_2 := Aside0.mk c24
                        clear c24
                        have H' := Aside0.mk H
                        clear H
                        have p168 : 0 ≤ (x49_2 : Int) := of_decide_eq_true (by first | (with_reducible assumption) | assumption)
                        have q168 : x49_2 < (l2.length : Int) := of_decide_eq_true (by first | (with_reducible assumption) | assumption)
                        obtain ⟨ad168, e168, hx168_0⟩ := Kd.at_int HR2.out x49_2 p168 q168
                        cases e168
                        replace hx168_0 := (HB.out.cell (World.block_lt_of_cell? w _ hx168_0)).trans hx168_0
                        replace p168 := eq_true p168
                        replace q168 := eq_true q168
                        obtain ⟨i025, hi025, _, hsz25, _⟩ := info_parts info3
                        obtain ⟨hcut25, hA25, hC25⟩ := print_take_of (P := Try.prog) (Value.int .i64) 0 31 3 .i64 Try.underlying31 hi025 hsz25 (some ad168) c2 l2 x49_2 (of_decide_eq_true (by first | (with_reducible assumption) | assumption)) (of_decide_eq_true (by first | (with_reducible assumption) | assumption)) HC2.out
                        have HR169 := Aside0.mk (Kd.C_of_reads (h1 := fun _ => rfl) (hA25 _ (Kd.reads_of_C HR2.out)))
                        have HC169 := Aside0.mk hC25
                        clear hA25 hC25 hi025 hsz25
                        go_wp2
                        repeat (go_quiet (fail); try go_wp2)
                        go_loopg [58] k2 (fun kq v58 w' => ∃ (x58_3 : Int), v58 = .int .i64 x58_3 ∧ Aside0 (complex_Shells.l2 kq l2 x49_2 (rd l2 x49_2) l2 (l2.length : Int) x49_2 (l2.take (x49_2 : Int).toNat) ((l2.take (x49_2 : Int).toNat).length : Int) x58_3 = some (r1, r2)) ∧ Aside0 (kq ≤ k2) ∧ Aside0 (Below w.heap.size w w'))
                        case atStart => exact ⟨(0), (by first | rfl | (simp; done) | (simp [*]; done)), H', ⟨Nat.le_refl _⟩, ⟨by repeat (first | (with_reducible first | exact HB.out | apply below_alloc | apply pw_below_drewN | apply below_drew1) | exact HB.out)⟩⟩
                        case round =>
                          clear H'
                          try clear c1
                          try clear p1
                          try clear q1
                          try clear hx1
                          try clear qi1
                          try clear c2
                          try clear p2
                          try clear c5
                          try clear c5b0
                          try clear c5b1
                          try clear p6
                          try clear c9
                          try clear c13
                          try clear c13b0
                          try clear c14
                          try clear c14b0
                          try clear c15
                          try clear c15b0
                          try clear p16
                          try clear q16
                          try clear hx16
                          try clear qi16
                          try clear c17
                          try clear c17b0
                          try clear c17b1
                          try clear c19
                          try clear c19b0
                          try clear c19b1
                          try clear c20
                          try clear c20b0
                          try clear c21
                          try clear c21b0
                          try clear c22
                          try clear c22b0
                          try clear c23
                          try clear c23b0
                          try clear c24
                          try clear c24b0
                          try clear c24b1
                          try clear hx164_0
                          try clear hx166_0
                          try clear hx168_0
                          try clear p1
                          try clear p16
                          try clear p164
                          try clear p166
                          try clear p168
                          try clear p2
                          try clear p6
                          try clear q1
                          try clear q16
                          try clear q164
                          try clear q166
                          try clear q168
                          obtain ⟨x58_3, rfl, HA, HK3, HB⟩ := hrel
                          cases gk with
                          | zero => exact absurd HA.out (by simp [complex_Shells.l2])
                          | succ k3 =>
                            have H := HA.out
                            clear HA
                            simp only [complex_Shells.l2] at H
                            by_cases c26 : x58_3 < ((l2.take (x49_2 : Int).toNat).length : Int)
                            · rw [if_pos c26] at H
                              have c26b0 : decide (x58_3 < ((l2.take (x49_2 : Int).toNat).length : Int)) = true := decide_eq_true c26
                              have c26m : (x58_3 < max x49_2 0) = True := eq_true (by have h_ := c26; have g_ : x49_2 ≤ (l2.length : Int) := gk_x49_2.out; rw [List.length_take] at h_; omega)
                              clear c26
                              by_cases c27 : 0 ≤ x58_3
                              · rw [if_pos c27] at H
                                have c27b0 : decide (0 ≤ x58_3) = true := decide_eq_true c27
                                clear c27
                                by_cases c28 : x58_3 < ((l2.take (x49_2 : Int).toNat).length : Int)
                                · rw [if_pos c28] at H
                                  have c28b0 : decide (x58_3 < ((l2.take (x49_2 : Int).toNat).length : Int)) = true := decide_eq_true c28
                                  have c28m : (x58_3 < max x49_2 0) = True := eq_true (by have h_ := c28; have g_ : x49_2 ≤ (l2.length : Int) := gk_x49_2.out; rw [List.length_take] at h_; omega)
                                  clear c28
                                  by_cases c29 : 0 ≤ x49_2
                                  · rw [if_pos c29] at H
                                    have c29b0 := eq_true c29
                                    have c29b1 : decide (0 ≤ x49_2) = true := decide_eq_true c29
                                    clear c29
                                    by_cases c30 : x49_2 ≤ (l2.length : Int)
                                    · rw [if_pos c30] at H
                                      have c30b0 := eq_true c30
                                      have c30b1 : decide (x49_2 ≤ (l2.length : Int)) = true := decide_eq_true c30
                                      have gk_x49_2 := Aside0.mk c30
                                      clear c30
                                      have H' := Aside0.mk H
                                      clear H
                                      have p170 : 0 ≤ (x58_3 : Int) := of_decide_eq_true (by first | (with_reducible assumption) | assumption)
                                      have q170 : x58_3 < ((l2.take (x49_2 : Int).toNat).length : Int) := of_decide_eq_true (by first | (with_reducible assumption) | assumption)
                                      obtain ⟨ad170, e170, hx170_0⟩ := Kd.at_int HR169.out x58_3 p170 q170
                                      obtain rfl : ad168 = ad170 := (by injection e170)
                                      replace hx170_0 := (HB.out.cell (World.block_lt_of_cell? w _ hx170_0)).trans hx170_0
                                      replace p170 := eq_true p170
                                      replace q170 := eq_true q170
                                      have q170m : x58_3 < max x49_2 0 := by have h_ := of_eq_true q170; have g_ := gk_x49_2.out; rw [List.length_take] at h_; omega
                                      obtain ⟨i031, hi031, _, hsz31, _⟩ := info_parts info3
                                      obtain ⟨hcut31, hA31, hC31⟩ := print_take_of (P := Try.prog) (Value.int .i64) 0 31 3 .i64 Try.underlying31 hi031 hsz31 (some ad168) c2 l2 x49_2 (of_decide_eq_true (by first | (with_reducible assumption) | assumption)) (of_decide_eq_true (by first | (with_reducible assumption) | assumption)) HC2.out
                                      have HR171 := Aside0.mk (Kd.C_of_reads (h1 := fun _ => rfl) (hA31 _ (Kd.reads_of_C HR2.out)))
                                      have HC171 := Aside0.mk hC31
                                      clear hA31 hC31 hi031 hsz31
                                      go_wp2
                                      repeat (go_quiet (fail); try go_wp2)
                                      go_loopg [16, 66] k3 (fun kq v16 v66 w' => ∃ (x16_4 : Bool) (x66_4 : Int), v16 = .bool x16_4 ∧ v66 = .int .i64 x66_4 ∧ Aside0 (complex_Shells.l3 kq l2 x49_2 (rd l2 x49_2) (rd (l2.take (x49_2 : Int).toNat) x58_3) x16_4 l2 (l2.length : Int) x49_2 (l2.take (x49_2 : Int).toNat) ((l2.take (x49_2 : Int).toNat).length : Int) x58_3 (l2.take (x49_2 : Int).toNat) ((l2.take (x49_2 : Int).toNat).length : Int) x66_4 = some (r1, r2)) ∧ Aside0 (kq ≤ k3) ∧ Aside0 (Below w.heap.size w w'))
                                      case atStart => exact ⟨(false), (0), (by first | rfl | (simp; done) | (simp [*]; done)), (by first | rfl | (simp; done) | (simp [*]; done)), H', ⟨Nat.le_refl _⟩, ⟨by repeat (first | (with_reducible first | exact HB.out | apply below_alloc | apply pw_below_drewN | apply below_drew1) | exact HB.out)⟩⟩
                                      case round =>
                                        clear H'
                                        try clear c1
                                        try clear p1
                                        try clear q1
                                        try clear hx1
                                        try clear qi1
                                        try clear c2
                                        try clear p2
                                        try clear c3
                                        try clear c5
                                        try clear c5b0
                                        try clear c5b1
                                        try clear p6
                                        try clear c9
                                        try clear c13
                                        try clear c13b0
                                        try clear c14
                                        try clear c14b0
                                        try clear c15
                                        try clear c15b0
                                        try clear p16
                                        try clear q16
                                        try clear hx16
                                        try clear qi16
                                        try clear c17
                                        try clear c17b0
                                        try clear c17b1
                                        try clear p17
                                        try clear q17
                                        try clear hx17
                                        try clear c19
                                        try clear c19b0
                                        try clear c19b1
                                        try clear c20
                                        try clear c20b0
                                        try clear c21
                                        try clear c21b0
                                        try clear c22
                                        try clear c22b0
                                        try clear c23
                                        try clear c23b0
                                        try clear c24
                                        try clear c24b0
                                        try clear c24b1
                                        try clear c26
                                        try clear c26b0
                                        try clear c27
                                        try clear c27b0
                                        try clear c28
                                        try clear c28b0
                                        try clear c29
                                        try clear c29b0
                                        try clear c29b1
                                        try clear c30
                                        try clear c30b0
                                        try clear c30b1
                                        try clear hx164_0
                                        try clear hx166_0
                                        try clear hx168_0
                                        try clear hx170_0
                                        try clear p1
                                        try clear p16
                                        try clear p164
                                        try clear p166
                                        try clear p168
                                        try clear p170
                                        try clear p2
                                        try clear p6
                                        try clear q1
                                        try clear q16
                                        try clear q164
                                        try clear q166
                                        try clear q168
                                        try clear q170
                                        obtain ⟨x16_4, x66_4, rfl, rfl, HA, HK4, HB⟩ := hrel
                                        cases gk with
                                        | zero => exact absurd HA.out (by simp [complex_Shells.l3])
                                        | succ k4 =>
                                          have H := HA.out
                                          clear HA
                                          simp only [complex_Shells.l3] at H
                                          by_cases c32 : x66_4 < ((l2.take (x49_2 : Int).toNat).length : Int)
                                          · rw [if_pos c32] at H
                                            have c32b0 : decide (x66_4 < ((l2.take (x49_2 : Int).toNat).length : Int)) = true := decide_eq_true c32
                                            have c32m : (x66_4 < max x49_2 0) = True := eq_true (by have h_ := c32; have g_ : x49_2 ≤ (l2.length : Int) := gk_x49_2.out; rw [List.length_take] at h_; omega)
                                            clear c32
                                            by_cases c33 : 0 ≤ x66_4
                                            · rw [if_pos c33] at H
                                              have c33b0 : decide (0 ≤ x66_4) = true := decide_eq_true c33
                                              clear c33
                                              by_cases c34 : x66_4 < ((l2.take (x49_2 : Int).toNat).length : Int)
                                              · rw [if_pos c34] at H
                                                have c34b0 : decide (x66_4 < ((l2.take (x49_2 : Int).toNat).length : Int)) = true := decide_eq_true c34
                                                have c34m : (x66_4 < max x49_2 0) = True := eq_true (by have h_ := c34; have g_ : x49_2 ≤ (l2.length : Int) := gk_x49_2.out; rw [List.length_take] at h_; omega)
                                                clear c34
                                                by_cases c35 : x16_4 = true
                                                · subst c35
                                                  have H1 : (complex_Shells.l3 k4 l2 x49_2 (rd l2 x49_2) (rd (l2.take (x49_2 : Int).toNat) x58_3) true l2 (l2.length : Int) x49_2 (l2.take (x49_2 : Int).toNat) ((l2.take (x49_2 : Int).toNat).length : Int) x58_3 (l2.take (x49_2 : Int).toNat) ((l2.take (x49_2 : Int).toNat).length : Int) (wrap64 (x66_4 + 1))) = some (r1, r2) := by rw [if_pos rfl] at H; exact H
                                                  clear H
                                                  have H := H1
                                                  clear H1
                                                  have H' := Aside0.mk H
                                                  clear H
                                                  have p172 : 0 ≤ (x66_4 : Int) := of_decide_eq_true (by first | (with_reducible assumption) | assumption)
                                                  have q172 : x66_4 < ((l2.take (x49_2 : Int).toNat).length : Int) := of_decide_eq_true (by first | (with_reducible assumption) | assumption)
                                                  obtain ⟨ad172, e172, hx172_0⟩ := Kd.at_int HR171.out x66_4 p172 q172
                                                  obtain rfl : ad168 = ad172 := (by injection e172)
                                                  replace hx172_0 := (HB.out.cell (World.block_lt_of_cell? w _ hx172_0)).trans hx172_0
                                                  replace p172 := eq_true p172
                                                  replace q172 := eq_true q172
                                                  have q172m : x66_4 < max x49_2 0 := by have h_ := of_eq_true q172; have g_ := gk_x49_2.out; rw [List.length_take] at h_; omega
                                                  go_wp2
                                                  repeat (go_quiet (fail); try go_wp2)
                                                  go_roundg k4
                                                  case measure => have := HK1.out; have := HK2.out; have := HK3.out; have := HK4.out; omega
                                                  case rel => exact ⟨(true), (wrap64 (x66_4 + 1)), (by first | rfl | (simp; done) | (simp [*]; done)), (by first | rfl | (simp; done) | (simp [*]; done)), H', ⟨by have := HK1.out; have := HK2.out; have := HK3.out; have := HK4.out; omega⟩, ⟨by repeat (first | (with_reducible first | exact HB.out | apply below_alloc | apply pw_below_drewN | apply below_drew1) | exact HB.out)⟩⟩
                                                · replace c35 := Bool.eq_false_iff.mpr c35
                                                  subst c35
                                                  have H1 : ((complex_size.f (Go.bits .and .i64 (rd l2 x49_2) (rd (l2.take (x49_2 : Int).toNat) x66_4))).bind fun t173 => ((complex_size.f (rd l2 x49_2)).bind fun t174 => (if t173 = (wrap64 (t174 - 1)) then (complex_Shells.l3 k4 l2 x49_2 (rd l2 x49_2) (rd (l2.take (x49_2 : Int).toNat) x58_3) ((Go.bits .andNot .i64 (Go.bits .and .i64 (rd l2 x49_2) (rd (l2.take (x49_2 : Int).toNat) x58_3)) (rd (l2.take (x49_2 : Int).toNat) x66_4)) == 0) l2 (l2.length : Int) x49_2 (l2.take (x49_2 : Int).toNat) ((l2.take (x49_2 : Int).toNat).length : Int) x58_3 (l2.take (x49_2 : Int).toNat) ((l2.take (x49_2 : Int).toNat).length : Int) (wrap64 (x66_4 + 1))) else (complex_Shells.l3 k4 l2 x49_2 (rd l2 x49_2) (rd (l2.take (x49_2 : Int).toNat) x58_3) false l2 (l2.length : Int) x49_2 (l2.take (x49_2 : Int).toNat) ((l2.take (x49_2 : Int).toNat).length : Int) x58_3 (l2.take (x49_2 : Int).toNat) ((l2.take (x49_2 : Int).toNat).length : Int) (wrap64 (x66_4 + 1)))))) = some (r1, r2) := by rw [if_neg (show ¬ (false = true) by decide)] at H; exact H
                                                  clear H
                                                  have H := H1
                                                  clear H1
                                                  replace H := Option.bind_eq_some_iff.mp H
                                                  obtain ⟨t173, A360, H⟩ := H
                                                  replace H : ((complex_size.f (rd l2 x49_2)).bind fun t174 => (if t173 = (wrap64 (t174 - 1)) then (complex_Shells.l3 k4 l2 x49_2 (rd l2 x49_2) (rd (l2.take (x49_2 : Int).toNat) x58_3) ((Go.bits .andNot .i64 (Go.bits .and .i64 (rd l2 x49_2) (rd (l2.take (x49_2 : Int).toNat) x58_3)) (rd (l2.take (x49_2 : Int).toNat) x66_4)) == 0) l2 (l2.length : Int) x49_2 (l2.take (x49_2 : Int).toNat) ((l2.take (x49_2 : Int).toNat).length : Int) x58_3 (l2.take (x49_2 : Int).toNat) ((l2.take (x49_2 : Int).toNat).length : Int) (wrap64 (x66_4 + 1))) else (complex_Shells.l3 k4 l2 x49_2 (rd l2 x49_2) (rd (l2.take (x49_2 : Int).toNat) x58_3) false l2 (l2.length : Int) x49_2 (l2.take (x49_2 : Int).toNat) ((l2.take (x49_2 : Int).toNat).length : Int) x58_3 (l2.take (x49_2 : Int).toNat) ((l2.take (x49_2 : Int).toNat).length : Int) (wrap64 (x66_4 + 1))))) = some (r1, r2) := H
                                                  have A36 := Aside0.mk A360
                                                  clear A360
                                                  replace H := Option.bind_eq_some_iff.mp H
                                                  obtain ⟨t174, A370, H⟩ := H
                                                  replace H : (if t173 = (wrap64 (t174 - 1)) then (complex_Shells.l3 k4 l2 x49_2 (rd l2 x49_2) (rd (l2.take (x49_2 : Int).toNat) x58_3) ((Go.bits .andNot .i64 (Go.bits .and .i64 (rd l2 x49_2) (rd (l2.take (x49_2 : Int).toNat) x58_3)) (rd (l2.take (x49_2 : Int).toNat) x66_4)) == 0) l2 (l2.length : Int) x49_2 (l2.take (x49_2 : Int).toNat) ((l2.take (x49_2 : Int).toNat).length : Int) x58_3 (l2.take (x49_2 : Int).toNat) ((l2.take (x49_2 : Int).toNat).length : Int) (wrap64 (x66_4 + 1))) else (complex_Shells.l3 k4 l2 x49_2 (rd l2 x49_2) (rd (l2.take (x49_2 : Int).toNat) x58_3) false l2 (l2.length : Int) x49_2 (l2.take (x49_2 : Int).toNat) ((l2.take (x49_2 : Int).toNat).length : Int) x58_3 (l2.take (x49_2 : Int).toNat) ((l2.take (x49_2 : Int).toNat).length : Int) (wrap64 (x66_4 + 1)))) = some (r1, r2) := H
                                                  have A37 := Aside0.mk A370
                                                  clear A370
                                                  by_cases c38 : t173 = (wrap64 (t174 - 1))
                                                  · rw [if_pos c38] at H
                                                    have c38b0 : (t173 == (wrap64 (t174 - 1))) = true := beq_iff_eq.mpr c38
                                                    have c38b1 : (t173 != (wrap64 (t174 - 1))) = false := bne_eq_false_iff_eq.mpr c38
                                                    clear c38
                                                    have H' := Aside0.mk H
                                                    clear H
                                                    have p172 : 0 ≤ (x66_4 : Int) := of_decide_eq_true (by first | (with_reducible assumption) | assumption)
                                                    have q172 : x66_4 < ((l2.take (x49_2 : Int).toNat).length : Int) := of_decide_eq_true (by first | (with_reducible assumption) | assumption)
                                                    obtain ⟨ad172, e172, hx172_0⟩ := Kd.at_int HR171.out x66_4 p172 q172
                                                    obtain rfl : ad168 = ad172 := (by injection e172)
                                                    replace hx172_0 := (HB.out.cell (World.block_lt_of_cell? w _ hx172_0)).trans hx172_0
                                                    replace p172 := eq_true p172
                                                    replace q172 := eq_true q172
                                                    have q172m : x66_4 < max x49_2 0 := by have h_ := of_eq_true q172; have g_ := gk_x49_2.out; rw [List.length_take] at h_; omega
                                                    go_wp2_with (first | (go_at_call 42; (with_reducible refine (complex_size.calls (Go.bits .and .i64 (rd l2 x49_2) (rd (l2.take (x49_2 : Int).toNat) x66_4)) t173 _ A36.out).mono ?_); rintro e w' ⟨rfl, ⟨nd, rfl⟩⟩; (try first | exact ⟨rfl, _, World.drewN_drewN _ _ _⟩ | exact ⟨rfl, _, Eq.trans (World.drewN_drewN _ _ _) (congrArg (World.drewN _) (Nat.add_assoc _ _ _))⟩)) | (go_at_call 42; (with_reducible refine (complex_size.calls (rd l2 x49_2) t174 _ A37.out).mono ?_); rintro e w' ⟨rfl, ⟨nd, rfl⟩⟩; (try first | exact ⟨rfl, _, World.drewN_drewN _ _ _⟩ | exact ⟨rfl, _, Eq.trans (World.drewN_drewN _ _ _) (congrArg (World.drewN _) (Nat.add_assoc _ _ _))⟩)))
                                                    repeat (go_quiet (first | (go_at_call 42; (with_reducible refine (complex_size.calls (Go.bits .and .i64 (rd l2 x49_2) (rd (l2.take (x49_2 : Int).toNat) x66_4)) t173 _ A36.out).mono ?_); rintro e w' ⟨rfl, ⟨nd, rfl⟩⟩; (try first | exact ⟨rfl, _, World.drewN_drewN _ _ _⟩ | exact ⟨rfl, _, Eq.trans (World.drewN_drewN _ _ _) (congrArg (World.drewN _) (Nat.add_assoc _ _ _))⟩)) | (go_at_call 42; (with_reducible refine (complex_size.calls (rd l2 x49_2) t174 _ A37.out).mono ?_); rintro e w' ⟨rfl, ⟨nd, rfl⟩⟩; (try first | exact ⟨rfl, _, World.drewN_drewN _ _ _⟩ | exact ⟨rfl, _, Eq.trans (World.drewN_drewN _ _ _) (congrArg (World.drewN _) (Nat.add_assoc _ _ _))⟩))); try go_wp2_with (first | (go_at_call 42; (with_reducible refine (complex_size.calls (Go.bits .and .i64 (rd l2 x49_2) (rd (l2.take (x49_2 : Int).toNat) x66_4)) t173 _ A36.out).mono ?_); rintro e w' ⟨rfl, ⟨nd, rfl⟩⟩; (try first | exact ⟨rfl, _, World.drewN_drewN _ _ _⟩ | exact ⟨rfl, _, Eq.trans (World.drewN_drewN _ _ _) (congrArg (World.drewN _) (Nat.add_assoc _ _ _))⟩)) | (go_at_call 42; (with_reducible refine (complex_size.calls (rd l2 x49_2) t174 _ A37.out).mono ?_); rintro e w' ⟨rfl, ⟨nd, rfl⟩⟩; (try first | exact ⟨rfl, _, World.drewN_drewN _ _ _⟩ | exact ⟨rfl, _, Eq.trans (World.drewN_drewN _ _ _) (congrArg (World.drewN _) (Nat.add_assoc _ _ _))⟩))))
                                                    go_roundg k4
                                                    case measure => have := HK1.out; have := HK2.out; have := HK3.out; have := HK4.out; omega
                                                    case rel => exact ⟨(((Go.bits .andNot .i64 (Go.bits .and .i64 (rd l2 x49_2) (rd (l2.take (x49_2 : Int).toNat) x58_3)) (rd (l2.take (x49_2 : Int).toNat) x66_4)) == 0)), (wrap64 (x66_4 + 1)), (by first | rfl | (simp; done) | (simp [*]; done)), (by first | rfl | (simp; done) | (simp [*]; done)), H', ⟨by have := HK1.out; have := HK2.out; have := HK3.out; have := HK4.out; omega⟩, ⟨by repeat (first | (with_reducible first | exact HB.out | apply below_alloc | apply pw_below_drewN | apply below_drew1) | exact HB.out)⟩⟩
                                                  · rw [if_neg c38] at H
                                                    have c38b0 : (t173 == (wrap64 (t174 - 1))) = false := beq_eq_false_iff_ne.mpr c38
                                                    have c38b1 : (t173 != (wrap64 (t174 - 1))) = true := bne_iff_ne.mpr c38
                                                    have H' := Aside0.mk H
                                                    clear H
                                                    have p172 : 0 ≤ (x66_4 : Int) := of_decide_eq_true (by first | (with_reducible assumption) | assumption)
                                                    have q172 : x66_4 < ((l2.take (x49_2 : Int).toNat).length : Int) := of_decide_eq_true (by first | (with_reducible assumption) | assumption)
                                                    obtain ⟨ad172, e172, hx172_0⟩ := Kd.at_int HR171.out x66_4 p172 q172
                                                    obtain rfl : ad168 = ad172 := (by injection e172)
                                                    replace hx172_0 := (HB.out.cell (World.block_lt_of_cell? w _ hx172_0)).trans hx172_0
                                                    replace p172 := eq_true p172
                                                    replace q172 := eq_true q172
                                                    have q172m : x66_4 < max x49_2 0 := by have h_ := of_eq_true q172; have g_ := gk_x49_2.out; rw [List.length_take] at h_; omega
                                                    go_wp2_with (first | (go_at_call 42; (with_reducible refine (complex_size.calls (Go.bits .and .i64 (rd l2 x49_2) (rd (l2.take (x49_2 : Int).toNat) x66_4)) t173 _ A36.out).mono ?_); rintro e w' ⟨rfl, ⟨nd, rfl⟩⟩; (try first | exact ⟨rfl, _, World.drewN_drewN _ _ _⟩ | exact ⟨rfl, _, Eq.trans (World.drewN_drewN _ _ _) (congrArg (World.drewN _) (Nat.add_assoc _ _ _))⟩)) | (go_at_call 42; (with_reducible refine (complex_size.calls (rd l2 x49_2) t174 _ A37.out).mono ?_); rintro e w' ⟨rfl, ⟨nd, rfl⟩⟩; (try first | exact ⟨rfl, _, World.drewN_drewN _ _ _⟩ | exact ⟨rfl, _, Eq.trans (World.drewN_drewN _ _ _) (congrArg (World.drewN _) (Nat.add_assoc _ _ _))⟩)))
                                                    repeat (go_quiet (first | (go_at_call 42; (with_reducible refine (complex_size.calls (Go.bits .and .i64 (rd l2 x49_2) (rd (l2.take (x49_2 : Int).toNat) x66_4)) t173 _ A36.out).mono ?_); rintro e w' ⟨rfl, ⟨nd, rfl⟩⟩; (try first | exact ⟨rfl, _, World.drewN_drewN _ _ _⟩ | exact ⟨rfl, _, Eq.trans (World.drewN_drewN _ _ _) (congrArg (World.drewN _) (Nat.add_assoc _ _ _))⟩)) | (go_at_call 42; (with_reducible refine (complex_size.calls (rd l2 x49_2) t174 _ A37.out).mono ?_); rintro e w' ⟨rfl, ⟨nd, rfl⟩⟩; (try first | exact ⟨rfl, _, World.drewN_drewN _ _ _⟩ | exact ⟨rfl, _, Eq.trans (World.drewN_drewN _ _ _) (congrArg (World.drewN _) (Nat.add_assoc _ _ _))⟩))); try go_wp2_with (first | (go_at_call 42; (with_reducible refine (complex_size.calls (Go.bits .and .i64 (rd l2 x49_2) (rd (l2.take (x49_2 : Int).toNat) x66_4)) t173 _ A36.out).mono ?_); rintro e w' ⟨rfl, ⟨nd, rfl⟩⟩; (try first | exact ⟨rfl, _, World.drewN_drewN _ _ _⟩ | exact ⟨rfl, _, Eq.trans (World.drewN_drewN _ _ _) (congrArg (World.drewN _) (Nat.add_assoc _ _ _))⟩)) | (go_at_call 42; (with_reducible refine (complex_size.calls (rd l2 x49_2) t174 _ A37.out).mono ?_); rintro e w' ⟨rfl, ⟨nd, rfl⟩⟩; (try first | exact ⟨rfl, _, World.drewN_drewN _ _ _⟩ | exact ⟨rfl, _, Eq.trans (World.drewN_drewN _ _ _) (congrArg (World.drewN _) (Nat.add_assoc _ _ _))⟩))))
                                                    go_roundg k4
                                                    case measure => have := HK1.out; have := HK2.out; have := HK3.out; have := HK4.out; omega
                                                    case rel => exact ⟨(false), (wrap64 (x66_4 + 1)), (by first | rfl | (simp; done) | (simp [*]; done)), (by first | rfl | (simp; done) | (simp [*]; done)), H', ⟨by have := HK1.out; have := HK2.out; have := HK3.out; have := HK4.out; omega⟩, ⟨by repeat (first | (with_reducible first | exact HB.out | apply below_alloc | apply pw_below_drewN | apply below_drew1) | exact HB.out)⟩⟩
                                              · rw [if_neg c34] at H
                                                exact absurd H (by simp)
                                            · rw [if_neg c33] at H
                                              exact absurd H (by simp)
                                          · rw [if_neg c32] at H
                                            have c32b0 : decide (x66_4 < ((l2.take (x49_2 : Int).toNat).length : Int)) = false := decide_eq_false c32
                                            have c32m : (x66_4 < max x49_2 0) = False := eq_false (by have h_ := c32; have g_ : x49_2 ≤ (l2.length : Int) := gk_x49_2.out; rw [List.length_take] at h_; omega)
                                            clear c32
                                            by_cases c39 : x16_4 = true
                                            · subst c39
                                              have H1 : (complex_Shells.l2 k4 l2 x49_2 (rd l2 x49_2) l2 (l2.length : Int) x49_2 (l2.take (x49_2 : Int).toNat) ((l2.take (x49_2 : Int).toNat).length : Int) (wrap64 (x58_3 + 1))) = some (r1, r2) := by rw [if_pos rfl] at H; exact H
                                              clear H
                                              have H := H1
                                              clear H1
                                              have H' := Aside0.mk H
                                              clear H
                                              go_wp2
                                              repeat (go_quiet (fail); try go_wp2)
                                              go_roundg k4
                                              case measure => have := HK1.out; have := HK2.out; have := HK3.out; have := HK4.out; omega
                                              case rel => exact ⟨(wrap64 (x58_3 + 1)), (by first | rfl | (simp; done) | (simp [*]; done)), H', ⟨by have := HK1.out; have := HK2.out; have := HK3.out; have := HK4.out; omega⟩, ⟨by repeat (first | (with_reducible first | exact HB.out | apply below_alloc | apply pw_below_drewN | apply below_drew1) | exact HB.out)⟩⟩
                                            · replace c39 := Bool.eq_false_iff.mpr c39
                                              subst c39
                                              have H1 : (some (false, 0)) = some (r1, r2) := by rw [if_neg (show ¬ (false = true) by decide)] at H; exact H
                                              clear H
                                              have H := H1
                                              clear H1
                                              simp only [Option.some.injEq, Prod.mk.injEq] at H
                                              obtain ⟨rfl, rfl⟩ := H
                                              go_wp2
                                              repeat (go_quiet (fail); try go_wp2)
                                              go_ret2
                                              exact ⟨by first | rfl | (simp [errW_none, errW_some] <;> rfl) | (simp [*, errW_none, errW_some] <;> rfl), by repeat (first | (with_reducible first | exact HB.out | apply below_alloc | apply pw_below_drewN | apply below_drew1) | exact HB.out)⟩
                                    · rw [if_neg c30] at H
                                      exact absurd H (by simp)
                                  · rw [if_neg c29] at H
                                    exact absurd H (by simp)
                                · rw [if_neg c28] at H
                                  exact absurd H (by simp)
                              · rw [if_neg c27] at H
                                exact absurd H (by simp)
                            · rw [if_neg c26] at H
                              have c26b0 : decide (x58_3 < ((l2.take (x49_2 : Int).toNat).length : Int)) = false := decide_eq_false c26
                              have c26m : (x58_3 < max x49_2 0) = False := eq_false (by have h_ := c26; have g_ : x49_2 ≤ (l2.length : Int) := gk_x49_2.out; rw [List.length_take] at h_; omega)
                              clear c26
                              have H' := Aside0.mk H
                              clear H
                              go_wp2
                              repeat (go_quiet (fail); try go_wp2)
                              go_roundg k3
                              case measure => have := HK1.out; have := HK2.out; have := HK3.out; omega
                              case rel => exact ⟨(wrap64 (x49_2 + 1)), (by first | rfl | (simp; done) | (simp [*]; done)), H', ⟨by have := HK1.out; have := HK2.out; have := HK3.out; omega⟩, ⟨by repeat (first | (with_reducible first | exact HB.out | apply below_alloc | apply pw_below_drewN | apply below_drew1) | exact HB.out)⟩⟩
                      · rw [if_neg c24] at H
                        exact absurd H (by simp)
                    · rw [if_neg c22] at H
                      exact absurd H (by simp)
                  · rw [if_neg c21] at H
                    exact absurd H (by simp)
                · rw [if_neg c20] at H
                  have c20b0 : decide (x49_2 < (l2.length : Int)) = false := decide_eq_false c20
                  clear c20
                  simp only [Option.some.injEq, Prod.mk.injEq] at H
                  obtain ⟨rfl, rfl⟩ := H
                  go_wp2
                  repeat (go_quiet (fail); try go_wp2)
                  go_ret2
                  exact ⟨by first | rfl | (simp [errW_none, errW_some] <;> rfl) | (simp [*, errW_none, errW_some] <;> rfl), by repeat (first | (with_reducible first | exact HB.out | apply below_alloc | apply pw_below_drewN | apply below_drew1) | exact HB.out)⟩
    · replace c9 := Bool.eq_false_iff.mpr c9
      subst c9
      have H1 : (some (false, 1)) = some (r1, r2) := by rw [if_neg (show ¬ (false = true) by decide)] at H; exact H
      clear H
      have H := H1
      clear H1
      simp only [Option.some.injEq, Prod.mk.injEq] at H
      obtain ⟨rfl, rfl⟩ := H
      go_enter Try.func14, Try.ntmps14
      go_wp2_with (first | (go_at_call 39; (with_reducible refine (complex_Check.calls k a0 _ _ l1 t158 _ ?side1 ?side2 A4.out).mono ?_); (case side1 => repeat (first | exact HR1.out | (with_reducible refine Kd.C_alloc ?_ _) | (with_reducible refine Kd.C_drewN ?_ _) | (with_reducible refine Kd.C_drew ?_))); (case side2 => exact HC1.out); rintro e w' ⟨rfl, ⟨nd, rfl⟩⟩; (try first | exact ⟨rfl, _, World.drewN_drewN _ _ _⟩ | exact ⟨rfl, _, Eq.trans (World.drewN_drewN _ _ _) (congrArg (World.drewN _) (Nat.add_assoc _ _ _))⟩)) | (go_at_call 36; (with_reducible refine (Ext.Clone.calls _ _ l2 t159 _ ?side1 ?side2 A6.out).mono ?_); (case side1 => repeat (first | exact HR2.out | (with_reducible refine Kd.C_alloc ?_ _) | (with_reducible refine Kd.C_drewN ?_ _) | (with_reducible refine Kd.C_drew ?_))); (case side2 => exact HC2.out); rintro e w40 ⟨v160, rfl, ho0, hb⟩; have n0_ := Aside0.mk (Kd.R_lower ho0 (below_size (by repeat (first | (with_reducible first | exact HB.out | apply below_alloc | apply pw_below_drewN | apply below_drew1) | exact HB.out)))); have n1_ := Aside0.mk (below_step (by repeat (first | (with_reducible first | exact HB.out | apply below_alloc | apply pw_below_drewN | apply below_drew1) | exact HB.out)) hb); clear HB; have HO161 := n0_; have HB := n1_; clear n0_ n1_; (try clear hb); (try clear hb2); (try clear hk); (try clear hi); (try clear ho0); obtain ⟨Ao41, co41, eo41⟩ := Kd.R_slice HO161.out; subst eo41) | (go_at_call 40; (with_reducible refine (Ext.Sort.calls (fun k_ => some k_ = (.slice Ao41 t159.length co41 : Value).ownBlock) (.slice Ao41 t159.length co41) t159 t162 w _ ?side1 ?side2 A7.out).mono ?_); (case side1 => repeat (first | (with_reducible first | exact HB.out | apply below_alloc | apply pw_below_drewN | apply below_drew1) | exact HB.out)); (case side2 => exact Kd.R_tight rfl HO161.out); rintro e w42 ⟨rfl, hy0, hb, hkp⟩; have n0_ := Aside0.mk (Kd.R_reok rfl hy0 (fun k_ e_ => HO161.out.1 k_ e_)); have n1_ := Aside0.mk (hb); clear HO161; clear HB; have HO161 := n0_; have HB := n1_; clear n0_ n1_; (try clear hb); (try clear hkp); (try clear hy0)) | (go_at_call 41; refine calls_of_args (args' := #[.slice Ao41 t162.length co41, .slice A1 l1.length c1]) (by first | (rw [show t162.length = t159.length from (Kd.R_reads' HO161.out).1.symm] <;> rfl) | rfl) ?_; (with_reducible refine (slices_Equal_int_int.calls k _ _ t162 _ _ l1 false _ ?side1 ?side2 ?side3 ?side4 A8.out).mono ?_); (case side1 => repeat (first | exact (Kd.R_reads' HO161.out).2.2 | (with_reducible refine Kd.C_alloc ?_ _) | (with_reducible refine Kd.C_drewN ?_ _) | (with_reducible refine Kd.C_drew ?_))); (case side2 => rw [show t162.length = t159.length from (Kd.R_reads' HO161.out).1.symm]; exact (Kd.R_reads' HO161.out).2.1); (case side3 => repeat (first | exact (Kd.C_below HR1.out HB.out) | (with_reducible refine Kd.C_alloc ?_ _) | (with_reducible refine Kd.C_drewN ?_ _) | (with_reducible refine Kd.C_drew ?_))); (case side4 => exact HC1.out); rintro e w' ⟨rfl, ⟨nd, rfl⟩⟩; (try first | exact ⟨rfl, _, World.drewN_drewN _ _ _⟩ | exact ⟨rfl, _, Eq.trans (World.drewN_drewN _ _ _) (congrArg (World.drewN _) (Nat.add_assoc _ _ _))⟩)))
      repeat (go_quiet (first | (go_at_call 39; (with_reducible refine (complex_Check.calls k a0 _ _ l1 t158 _ ?side1 ?side2 A4.out).mono ?_); (case side1 => repeat (first | exact HR1.out | (with_reducible refine Kd.C_alloc ?_ _) | (with_reducible refine Kd.C_drewN ?_ _) | (with_reducible refine Kd.C_drew ?_))); (case side2 => exact HC1.out); rintro e w' ⟨rfl, ⟨nd, rfl⟩⟩; (try first | exact ⟨rfl, _, World.drewN_drewN _ _ _⟩ | exact ⟨rfl, _, Eq.trans (World.drewN_drewN _ _ _) (congrArg (World.drewN _) (Nat.add_assoc _ _ _))⟩)) | (go_at_call 36; (with_reducible refine (Ext.Clone.calls _ _ l2 t159 _ ?side1 ?side2 A6.out).mono ?_); (case side1 => repeat (first | exact HR2.out | (with_reducible refine Kd.C_alloc ?_ _) | (with_reducible refine Kd.C_drewN ?_ _) | (with_reducible refine Kd.C_drew ?_))); (case side2 => exact HC2.out); rintro e w40 ⟨v160, rfl, ho0, hb⟩; have n0_ := Aside0.mk (Kd.R_lower ho0 (below_size (by repeat (first | (with_reducible first | exact HB.out | apply below_alloc | apply pw_below_drewN | apply below_drew1) | exact HB.out)))); have n1_ := Aside0.mk (below_step (by repeat (first | (with_reducible first | exact HB.out | apply below_alloc | apply pw_below_drewN | apply below_drew1) | exact HB.out)) hb); clear HB; have HO161 := n0_; have HB := n1_; clear n0_ n1_; (try clear hb); (try clear hb2); (try clear hk); (try clear hi); (try clear ho0); obtain ⟨Ao41, co41, eo41⟩ := Kd.R_slice HO161.out; subst eo41) | (go_at_call 40; (with_reducible refine (Ext.Sort.calls (fun k_ => some k_ = (.slice Ao41 t159.length co41 : Value).ownBlock) (.slice Ao41 t159.length co41) t159 t162 w _ ?side1 ?side2 A7.out).mono ?_); (case side1 => repeat (first | (with_reducible first | exact HB.out | apply below_alloc | apply pw_below_drewN | apply below_drew1) | exact HB.out)); (case side2 => exact Kd.R_tight rfl HO161.out); rintro e w42 ⟨rfl, hy0, hb, hkp⟩; have n0_ := Aside0.mk (Kd.R_reok rfl hy0 (fun k_ e_ => HO161.out.1 k_ e_)); have n1_ := Aside0.mk (hb); clear HO161; clear HB; have HO161 := n0_; have HB := n1_; clear n0_ n1_; (try clear hb); (try clear hkp); (try clear hy0)) | (go_at_call 41; refine calls_of_args (args' := #[.slice Ao41 t162.length co41, .slice A1 l1.length c1]) (by first | (rw [show t162.length = t159.length from (Kd.R_reads' HO161.out).1.symm] <;> rfl) | rfl) ?_; (with_reducible refine (slices_Equal_int_int.calls k _ _ t162 _ _ l1 false _ ?side1 ?side2 ?side3 ?side4 A8.out).mono ?_); (case side1 => repeat (first | exact (Kd.R_reads' HO161.out).2.2 | (with_reducible refine Kd.C_alloc ?_ _) | (with_reducible refine Kd.C_drewN ?_ _) | (with_reducible refine Kd.C_drew ?_))); (case side2 => rw [show t162.length = t159.length from (Kd.R_reads' HO161.out).1.symm]; exact (Kd.R_reads' HO161.out).2.1); (case side3 => repeat (first | exact (Kd.C_below HR1.out HB.out) | (with_reducible refine Kd.C_alloc ?_ _) | (with_reducible refine Kd.C_drewN ?_ _) | (with_reducible refine Kd.C_drew ?_))); (case side4 => exact HC1.out); rintro e w' ⟨rfl, ⟨nd, rfl⟩⟩; (try first | exact ⟨rfl, _, World.drewN_drewN _ _ _⟩ | exact ⟨rfl, _, Eq.trans (World.drewN_drewN _ _ _) (congrArg (World.drewN _) (Nat.add_assoc _ _ _))⟩))); try go_wp2_with (first | (go_at_call 39; (with_reducible refine (complex_Check.calls k a0 _ _ l1 t158 _ ?side1 ?side2 A4.out).mono ?_); (case side1 => repeat (first | exact HR1.out | (with_reducible refine Kd.C_alloc ?_ _) | (with_reducible refine Kd.C_drewN ?_ _) | (with_reducible refine Kd.C_drew ?_))); (case side2 => exact HC1.out); rintro e w' ⟨rfl, ⟨nd, rfl⟩⟩; (try first | exact ⟨rfl, _, World.drewN_drewN _ _ _⟩ | exact ⟨rfl, _, Eq.trans (World.drewN_drewN _ _ _) (congrArg (World.drewN _) (Nat.add_assoc _ _ _))⟩)) | (go_at_call 36; (with_reducible refine (Ext.Clone.calls _ _ l2 t159 _ ?side1 ?side2 A6.out).mono ?_); (case side1 => repeat (first | exact HR2.out | (with_reducible refine Kd.C_alloc ?_ _) | (with_reducible refine Kd.C_drewN ?_ _) | (with_reducible refine Kd.C_drew ?_))); (case side2 => exact HC2.out); rintro e w40 ⟨v160, rfl, ho0, hb⟩; have n0_ := Aside0.mk (Kd.R_lower ho0 (below_size (by repeat (first | (with_reducible first | exact HB.out | apply below_alloc | apply pw_below_drewN | apply below_drew1) | exact HB.out)))); have n1_ := Aside0.mk (below_step (by repeat (first | (with_reducible first | exact HB.out | apply below_alloc | apply pw_below_drewN | apply below_drew1) | exact HB.out)) hb); clear HB; have HO161 := n0_; have HB := n1_; clear n0_ n1_; (try clear hb); (try clear hb2); (try clear hk); (try clear hi); (try clear ho0); obtain ⟨Ao41, co41, eo41⟩ := Kd.R_slice HO161.out; subst eo41) | (go_at_call 40; (with_reducible refine (Ext.Sort.calls (fun k_ => some k_ = (.slice Ao41 t159.length co41 : Value).ownBlock) (.slice Ao41 t159.length co41) t159 t162 w _ ?side1 ?side2 A7.out).mono ?_); (case side1 => repeat (first | (with_reducible first | exact HB.out | apply below_alloc | apply pw_below_drewN | apply below_drew1) | exact HB.out)); (case side2 => exact Kd.R_tight rfl HO161.out); rintro e w42 ⟨rfl, hy0, hb, hkp⟩; have n0_ := Aside0.mk (Kd.R_reok rfl hy0 (fun k_ e_ => HO161.out.1 k_ e_)); have n1_ := Aside0.mk (hb); clear HO161; clear HB; have HO161 := n0_; have HB := n1_; clear n0_ n1_; (try clear hb); (try clear hkp); (try clear hy0)) | (go_at_call 41; refine calls_of_args (args' := #[.slice Ao41 t162.length co41, .slice A1 l1.length c1]) (by first | (rw [show t162.length = t159.length from (Kd.R_reads' HO161.out).1.symm] <;> rfl) | rfl) ?_; (with_reducible refine (slices_Equal_int_int.calls k _ _ t162 _ _ l1 false _ ?side1 ?side2 ?side3 ?side4 A8.out).mono ?_); (case side1 => repeat (first | exact (Kd.R_reads' HO161.out).2.2 | (with_reducible refine Kd.C_alloc ?_ _) | (with_reducible refine Kd.C_drewN ?_ _) | (with_reducible refine Kd.C_drew ?_))); (case side2 => rw [show t162.length = t159.length from (Kd.R_reads' HO161.out).1.symm]; exact (Kd.R_reads' HO161.out).2.1); (case side3 => repeat (first | exact (Kd.C_below HR1.out HB.out) | (with_reducible refine Kd.C_alloc ?_ _) | (with_reducible refine Kd.C_drewN ?_ _) | (with_reducible refine Kd.C_drew ?_))); (case side4 => exact HC1.out); rintro e w' ⟨rfl, ⟨nd, rfl⟩⟩; (try first | exact ⟨rfl, _, World.drewN_drewN _ _ _⟩ | exact ⟨rfl, _, Eq.trans (World.drewN_drewN _ _ _) (congrArg (World.drewN _) (Nat.add_assoc _ _ _))⟩))))
      go_ret2
      exact ⟨by first | rfl | (simp [errW_none, errW_some] <;> rfl) | (simp [*, errW_none, errW_some] <;> rfl), by repeat (first | (with_reducible first | exact HB.out | apply below_alloc | apply pw_below_drewN | apply below_drew1) | exact HB.out)⟩
  · rw [if_neg c5] at H
    have c5b0 : (t158 == 0) = false := beq_eq_false_iff_ne.mpr c5
    have c5b1 : (t158 != 0) = true := bne_iff_ne.mpr c5
    simp only [Option.some.injEq, Prod.mk.injEq] at H
    obtain ⟨rfl, rfl⟩ := H
    go_enter Try.func14, Try.ntmps14
    go_wp2_with (first | (go_at_call 39; (with_reducible refine (complex_Check.calls k a0 _ _ l1 t158 _ ?side1 ?side2 A4.out).mono ?_); (case side1 => repeat (first | exact HR1.out | (with_reducible refine Kd.C_alloc ?_ _) | (with_reducible refine Kd.C_drewN ?_ _) | (with_reducible refine Kd.C_drew ?_))); (case side2 => exact HC1.out); rintro e w' ⟨rfl, ⟨nd, rfl⟩⟩; (try first | exact ⟨rfl, _, World.drewN_drewN _ _ _⟩ | exact ⟨rfl, _, Eq.trans (World.drewN_drewN _ _ _) (congrArg (World.drewN _) (Nat.add_assoc _ _ _))⟩)))
    repeat (go_quiet (first | (go_at_call 39; (with_reducible refine (complex_Check.calls k a0 _ _ l1 t158 _ ?side1 ?side2 A4.out).mono ?_); (case side1 => repeat (first | exact HR1.out | (with_reducible refine Kd.C_alloc ?_ _) | (with_reducible refine Kd.C_drewN ?_ _) | (with_reducible refine Kd.C_drew ?_))); (case side2 => exact HC1.out); rintro e w' ⟨rfl, ⟨nd, rfl⟩⟩; (try first | exact ⟨rfl, _, World.drewN_drewN _ _ _⟩ | exact ⟨rfl, _, Eq.trans (World.drewN_drewN _ _ _) (congrArg (World.drewN _) (Nat.add_assoc _ _ _))⟩))); try go_wp2_with (first | (go_at_call 39; (with_reducible refine (complex_Check.calls k a0 _ _ l1 t158 _ ?side1 ?side2 A4.out).mono ?_); (case side1 => repeat (first | exact HR1.out | (with_reducible refine Kd.C_alloc ?_ _) | (with_reducible refine Kd.C_drewN ?_ _) | (with_reducible refine Kd.C_drew ?_))); (case side2 => exact HC1.out); rintro e w' ⟨rfl, ⟨nd, rfl⟩⟩; (try first | exact ⟨rfl, _, World.drewN_drewN _ _ _⟩ | exact ⟨rfl, _, Eq.trans (World.drewN_drewN _ _ _) (congrArg (World.drewN _) (Nat.add_assoc _ _ _))⟩))))
    go_ret2
    exact ⟨by first | rfl | (simp [errW_none, errW_some] <;> rfl) | (simp [*, errW_none, errW_some] <;> rfl), by repeat (first | (with_reducible first | exact HB.out | apply below_alloc | apply pw_below_drewN | apply below_drew1) | exact HB.out)⟩

end Go.Proofs.Ytkppdmlellmepaa.PB
