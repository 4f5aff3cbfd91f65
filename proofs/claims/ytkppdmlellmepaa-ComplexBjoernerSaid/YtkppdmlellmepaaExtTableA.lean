/-
  tutte.added: a term's products, added to a table of rows.
-/
import Derived.Test.YtkppdmlellmepaaPBx4
namespace Go.Proofs.Ytkppdmlellmepaa
open Go.RowKit Go.Proofs.YtkppdmlellmepaaW.PrintWords Go.Proofs.YtkppdmlellmepaaW.PrintLast Go.Proofs.YtkppdmlellmepaaW.PrintMore
open PB

/-- a table of rows that is the call's own. -/
abbrev Tab (W : World) (base : Nat) (v : Value) (T : List (List Int)) : Prop := Kd.S (Kd.slice 2 (Kd.int .i64)) 54 W base (fun _ => True) v T

/-- a cell of a row of the table: where it lies, and what is then when it is stored into. -/
theorem tab_cell {W : World} {base : Nat} {v : Value} {T : List (List Int)} (h : Tab W base v T) (i j : Int) (hi0 : 0 ≤ i) (hi : i < (T.length : Int)) (hj0 : 0 ≤ j) (hj : j < ((T.getD i.toNat []).length : Int)) :
    ∃ g cap gi ci, v = .slice (some ⟨g, 0, none⟩) T.length cap ∧ W.cell? ⟨g, i.toNat, none⟩ = some (.slice (some ⟨gi, 0, none⟩) (T.getD i.toNat []).length ci) ∧ W.cell? ⟨gi, j.toNat, none⟩ = some (.int .i64 (rd (T.getD i.toNat []) j)) ∧ W.frozen? ⟨gi, j.toNat, none⟩ = false ∧ base ≤ gi ∧
      ∀ x, Tab (W.setCell ⟨gi, j.toNat, none⟩ (.int .i64 x)) base v (T.set i.toNat ((T.getD i.toNat []).set j.toNat x)) := by
  obtain ⟨g, cap, rfl, hb, hg, _⟩ := Kd.S_form h (by omega)
  obtain ⟨oki, c, hcl, hM, hcc, hok, hbk⟩ := Kd.S_borrow h [] i hi0 hi
  obtain ⟨vi, rfl, hR⟩ := hM
  have hv := hcc 0 _ rfl
  have e1 : (⟨g, 0, none⟩ : Addr).add (i.toNat * (Kd.slice 2 (Kd.int .i64)).sz + 0) = ⟨g, i.toNat, none⟩ := by
    rw [show (Kd.slice 2 (Kd.int .i64)).sz = 1 from rfl, Nat.mul_one, Nat.add_zero]
    by_cases h0 : i.toNat = 0
    · rw [h0]; rfl
    · simp [Addr.add, h0]
  rw [e1] at hv
  obtain ⟨gi, ci, rfl, hbi, hgi, _⟩ := Kd.R_form hR (by omega)
  obtain ⟨ci', hcl', hM', hcc', hfr⟩ := Kd.R_elem hR 0 j hj0 hj
  have hM2 : ci' = [Value.int .i64 ((T.getD i.toNat []).getD j.toNat 0)] := hM'
  subst hM2
  have hx := hcc' 0 _ rfl
  rw [show (Kd.int .i64).sz = 1 from rfl, Nat.mul_one, Nat.add_zero] at hx
  have hf := hfr 0
  rw [show (Kd.int .i64).sz = 1 from rfl, Nat.mul_one, Nat.add_zero] at hf
  refine ⟨g, cap, gi, ci, rfl, hv, hx, hf, hbi, fun x => ?_⟩
  have hP := Kd.R_putg hR j x
  exact hbk hP.2 (fun k e => by injection e with e; subst e; exact hR.1 _ rfl) (Kd.M_row hP.1)

/-- t[i][j] += n. -/
def putT (T : List (List Int)) (i j n : Int) : List (List Int) := T.set i.toNat ((T.getD i.toNat []).set j.toNat (wrap64 (rd (T.getD i.toNat []) j + n)))

def addJ (a b i : Int) : Nat → Int → List (List Int) → Option (List (List Int))
  | 0, _, _ => none
  | f + 1, j, T => if j ≤ b then (tutte_choose.f 100 a i).bind fun x => (tutte_choose.f 100 b j).bind fun y =>
      if 0 ≤ i ∧ i < (T.length : Int) ∧ 0 ≤ j ∧ j < ((T.getD i.toNat []).length : Int) then
        (if Int.tmod (wrap64 (wrap64 (wrap64 (a - i) + b) - j)) 2 = 1 then addJ a b i f (wrap64 (j + 1)) (putT T i j (wrap64 (-(wrap64 (x * y))))) else addJ a b i f (wrap64 (j + 1)) (putT T i j (wrap64 (x * y)))) else none
    else some T

def addI (a b : Int) : Nat → Int → List (List Int) → Option (List (List Int))
  | 0, _, _ => none
  | f + 1, i, T => if i ≤ a then (addJ a b i 100 0 T).bind fun T' => addI a b f (wrap64 (i + 1)) T' else some T

set_option maxRecDepth 100000 in
set_option maxHeartbeats 3200000 in
theorem added_calls (a b : Int) (v : Value) (T T' : List (List Int)) (W0 W : World) (hB : Below W0.heap.size W0 W) (hS : Tab W W0.heap.size v T) (h : addI a b 100 0 T = some T') :
    Calls Try.prog 74 #[v, .int .i64 a, .int .i64 b] W fun e W' => e = .returned (.tuple #[]) ∧ Below W0.heap.size W0 W' ∧ Tab W' W0.heap.size v T' := by
  have GB := Aside0.mk hB
  have GS := Aside0.mk hS
  have HA := Aside0.mk h
  clear hB hS h
  go_enter Try.func74, Try.ntmps74
  go_wp2
  go_loopg [6] 100 (fun kq v6 W' => ∃ (i : Int) (T1 : List (List Int)), v6 = .int .i64 i ∧ Aside0 (addI a b kq i T1 = some T') ∧ Aside0 (Below W0.heap.size W0 W') ∧ Aside0 (Tab W' W0.heap.size v T1))
  case atStart => exact ⟨0, T, rfl, HA, GB, GS⟩
  case round =>
    clear HA GB GS
    obtain ⟨i, T1, rfl, HA, GB, GS⟩ := hrel
    cases gk with
    | zero => exact absurd HA.out (by simp [addI])
    | succ k1 =>
      have H := HA.out
      clear HA
      simp only [addI] at H
      by_cases c1 : i ≤ a
      · rw [if_pos c1] at H
        obtain ⟨T2, HJ0, HN0⟩ := Option.bind_eq_some_iff.mp H
        have HJ := Aside0.mk HJ0
        have HN := Aside0.mk HN0
        clear HJ0 HN0 H
        go_wp2
        go_loopg [7] 100 (fun kq v7 W' => ∃ (j : Int) (T1 : List (List Int)), v7 = .int .i64 j ∧ Aside0 (addJ a b i kq j T1 = some T2) ∧ Aside0 (Below W0.heap.size W0 W') ∧ Aside0 (Tab W' W0.heap.size v T1))
        case atStart => exact ⟨0, T1, rfl, HJ, GB, GS⟩
        case round =>
          clear HJ GB GS T1
          obtain ⟨j, T1, rfl, HA, GB, GS⟩ := hrel
          cases gk with
          | zero => exact absurd HA.out (by simp [addJ])
          | succ k2 =>
            have H := HA.out
            clear HA
            simp only [addJ] at H
            by_cases c2 : j ≤ b
            · rw [if_pos c2] at H
              obtain ⟨x, HX0, H2⟩ := Option.bind_eq_some_iff.mp H
              obtain ⟨y, HY0, H3⟩ := Option.bind_eq_some_iff.mp H2
              have HX := Aside0.mk HX0
              have HY := Aside0.mk HY0
              clear H H2 HX0 HY0
              by_cases c3 : 0 ≤ i ∧ i < (T1.length : Int) ∧ 0 ≤ j ∧ j < ((T1.getD i.toNat []).length : Int)
              case neg => rw [if_neg c3] at H3; exact absurd H3 (by simp)
              case pos =>
                rw [if_pos c3] at H3
                obtain ⟨d1, d2, d3, d4⟩ := c3
                by_cases c4 : Int.tmod (wrap64 (wrap64 (wrap64 (a - i) + b) - j)) 2 = 1
                · rw [if_pos c4] at H3
                  have HR := Aside0.mk H3
                  clear H3
                  have c4b := beq_iff_eq.mpr c4
                  clear c4
                  go_upto_region 9 with (go_at_call 112; (first | (with_reducible refine (tutte_choose.calls 100 a i x _ HX.out).mono ?_) | (with_reducible refine (tutte_choose.calls 100 b j y _ HY.out).mono ?_)); rintro e_ w2 ⟨rfl, q, rfl⟩)
                  clear HX HY c4b
                  rename_i q1
                  have GB2 := Aside0.mk (pw_below_drewN GB.out (q1 + q))
                  have GS2 := Aside0.mk (Kd.S_drewN GS.out (q1 + q))
                  clear GB GS
                  generalize wr.drewN (q1 + q) = W2 at *
                  obtain ⟨row, hrow⟩ : ∃ row, T1.getD i.toNat [] = row := ⟨_, rfl⟩
                  obtain ⟨g, cap, gi, ci, rfl, e1, e2, e3, e4, e5⟩ := tab_cell GS2.out i j d1 d2 d3 d4
                  rw [hrow] at e1 e2 e5 d4
                  have E5 := Aside0.mk e5
                  have E4 := Aside0.mk e4
                  have HRW := Aside0.mk hrow
                  have d1b := eq_true d1
                  have d2b := eq_true d2
                  have d3b := eq_true d3
                  have d4b := eq_true d4
                  clear d1 d2 d3 d4 e4 e5 hrow
                  go_wp2
                  go_roundg k2
                  case measure => omega
                  case rel => exact ⟨wrap64 (j + 1), _, rfl, HR, ⟨below_set GB2.out E4.out⟩, ⟨by unfold putT; rw [HRW.out]; exact E5.out _⟩⟩
                · rw [if_neg c4] at H3
                  have HR := Aside0.mk H3
                  clear H3
                  have c4b := beq_eq_false_iff_ne.mpr c4
                  clear c4
                  go_upto_region 9 with (go_at_call 112; (first | (with_reducible refine (tutte_choose.calls 100 a i x _ HX.out).mono ?_) | (with_reducible refine (tutte_choose.calls 100 b j y _ HY.out).mono ?_)); rintro e_ w2 ⟨rfl, q, rfl⟩)
                  clear HX HY c4b
                  rename_i q1
                  have GB2 := Aside0.mk (pw_below_drewN GB.out (q1 + q))
                  have GS2 := Aside0.mk (Kd.S_drewN GS.out (q1 + q))
                  clear GB GS
                  generalize wr.drewN (q1 + q) = W2 at *
                  obtain ⟨row, hrow⟩ : ∃ row, T1.getD i.toNat [] = row := ⟨_, rfl⟩
                  obtain ⟨g, cap, gi, ci, rfl, e1, e2, e3, e4, e5⟩ := tab_cell GS2.out i j d1 d2 d3 d4
                  rw [hrow] at e1 e2 e5 d4
                  have E5 := Aside0.mk e5
                  have E4 := Aside0.mk e4
                  have HRW := Aside0.mk hrow
                  have d1b := eq_true d1
                  have d2b := eq_true d2
                  have d3b := eq_true d3
                  have d4b := eq_true d4
                  clear d1 d2 d3 d4 e4 e5 hrow
                  go_wp2
                  go_roundg k2
                  case measure => omega
                  case rel => exact ⟨wrap64 (j + 1), _, rfl, HR, ⟨below_set GB2.out E4.out⟩, ⟨by unfold putT; rw [HRW.out]; exact E5.out _⟩⟩
            · rw [if_neg c2] at H
              obtain rfl := Option.some.inj H
              clear H
              go_wp2
              go_roundg k1
              case measure => omega
              case rel => exact ⟨wrap64 (i + 1), T1, rfl, HN, GB, GS⟩
      · rw [if_neg c1] at H
        obtain rfl := Option.some.inj H
        clear H
        go_wp2
        go_end0
        exact ⟨rfl, GB.out, GS.out⟩
end Go.Proofs.Ytkppdmlellmepaa
