/-
  tutte.table: a matroid's table, by ranks and what is too much.
-/
import Derived.Test.YtkppdmlellmepaaExtTableA
namespace Go.Proofs.Ytkppdmlellmepaa
open Go.RowKit Go.Proofs.YtkppdmlellmepaaW.PrintWords Go.Proofs.YtkppdmlellmepaaW.PrintLast Go.Proofs.YtkppdmlellmepaaW.PrintMore
open PB

theorem info2 : (Try.prog.info? 2).map (fun i => (i.zero, i.size, i.bytes)) = some (some (.int .i64 0), 1, 8) := by kernel_rfl
theorem info54 : (Try.prog.info? 54).map (fun i => (i.zero, i.size, i.bytes)) = some (some (.slice none 0 0), 1, 24) := by kernel_rfl

theorem tab_form {W : World} {base : Nat} {v : Value} {T : List (List Int)} (h : Tab W base v T) (hp : 0 < T.length) : ∃ g cap, v = .slice (some ⟨g, 0, none⟩) T.length cap ∧ base ≤ g := by
  obtain ⟨g, cap, e, hb, _⟩ := Kd.S_form h hp
  exact ⟨g, cap, e, hb⟩

/-- out[i] = a new row. -/
theorem tab_put {W W1 : World} {base g cap : Nat} {v1 : Value} {T : List (List Int)} {row : List Int} (h : Tab W base (.slice (some ⟨g, 0, none⟩) T.length cap) T) (hb : Below W.heap.size W W1) (hle : base ≤ W.heap.size) (hr : Kd.R (Kd.int .i64) 2 W1 W.heap.size (fun _ => True) v1 row) (i : Int) (hi0 : 0 ≤ i) (hi : i < (T.length : Int)) :
    (∃ u, W1.cell? ⟨g, i.toNat, none⟩ = some u) ∧ W1.frozen? ⟨g, i.toNat, none⟩ = false ∧ Tab (W1.setCell ⟨g, i.toNat, none⟩ v1) base (.slice (some ⟨g, 0, none⟩) T.length cap) (T.set i.toNat row) := by
  have h1 : Kd.S (Kd.slice 2 (Kd.int .i64)) 54 W1 base (fun k => True ∧ ¬ (W.heap.size ≤ k)) (.slice (some ⟨g, 0, none⟩) T.length cap) T := Kd.S_below (Kd.S_mono (Kd.S_bound h) (fun k hk => ⟨trivial, by have := hk.2.2.1; omega⟩)) hb
  obtain ⟨oki, c, hcl, hM, hcc, hfr, hok, hH⟩ := Kd.S_elem h1 [] i hi0 hi
  obtain ⟨vi, rfl, hR⟩ := hM
  have hv := hcc 0 _ rfl
  have hf := hfr 0
  rw [show (Kd.slice 2 (Kd.int .i64)).sz = 1 from rfl, Nat.mul_one, Nat.add_zero] at hv hf
  have hgl : g < W.heap.size := Kd.S_lt h g rfl
  have hP := Kd.S_seg (okg := fun k => W.heap.size ≤ k) hH hi0 hi (seg := [v1]) (j := 0) (show 0 + 1 ≤ 1 by decide) (x' := row) (okp := fun k => W.heap.size ≤ k) (Kd.M_row (Kd.R_lower (Kd.R_mono (Kd.R_bound hr) (fun k hk => hk.2.1)) hle)) (fun k hk => .inr hk) (fun k hk => ⟨trivial, by omega⟩)
  rw [show (Kd.slice 2 (Kd.int .i64)).sz = 1 from rfl, Nat.mul_one, Nat.add_zero] at hP
  exact ⟨⟨_, hv⟩, hf, hP.1⟩

/-- each row is made. -/
def fillT (n m : Int) : Nat → Int → List (List Int) → Option (List (List Int))
  | 0, _, _ => none
  | f + 1, i, T => if i < n then (if 0 ≤ i ∧ i < (T.length : Int) then fillT n m f (wrap64 (i + 1)) (T.set i.toNat (List.replicate m.toNat 0)) else none) else some T

/-- each set's products. -/
def sumT (r : List Int) (all : Int) : Nat → Int → List (List Int) → Option (List (List Int))
  | 0, _, _ => none
  | f + 1, s, T => if s < (r.length : Int) then (if 0 ≤ s then (tutte_size.f s).bind fun z => (addI (wrap64 (all - rd r s)) (wrap64 (z - rd r s)) 100 0 T).bind fun T' => sumT r all f (wrap64 (s + 1)) T' else none) else some T

/-- the table, of all ranks. -/
def tableOf (a0 : Int) (r : List Int) (all : Int) : Option (List (List Int)) :=
  if 0 ≤ wrap64 (all + 1) ∧ wrap64 (all + 1) ≤ 1000 ∧ 0 ≤ wrap64 (wrap64 (a0 - all) + 1) ∧ wrap64 (wrap64 (a0 - all) + 1) ≤ 1000 then
    (fillT (wrap64 (all + 1)) (wrap64 (wrap64 (a0 - all) + 1)) 2000 0 (List.replicate (wrap64 (all + 1)).toNat [])).bind fun T => sumT r all 1000 0 T else none

def Ext.table.f (k : Nat) (a0 : Int) (l : List Int) : Option (List (List Int)) :=
  (axioms_Ranks.f k a0 l).bind fun t => if 0 ≤ wrap64 ((t.1.length : Int) - 1) ∧ wrap64 ((t.1.length : Int) - 1) < (t.1.length : Int) then tableOf a0 t.1 (rd t.1 (wrap64 ((t.1.length : Int) - 1))) else none

theorem Ext.table.mono : ∀ a0 a1 k, LeO (Ext.table.f k a0 a1) (Ext.table.f (k + 1) a0 a1) := fun a0 a1 k => LeO.bind (axioms_Ranks.mono a0 a1 k) (fun _ => LeO.refl _)

set_option maxRecDepth 100000 in
set_option maxHeartbeats 3200000 in
theorem Ext.table.calls (k : Nat) (a0 : Int) (A : Option Addr) (c : Nat) (l : List Int) (r : List (List Int)) (w : World) (hr : Kd.C (Kd.int .i64) w A l.length l) (hc : l.length ≤ c) (h : Ext.table.f k a0 l = some r) :
    Calls Try.prog 47 #[.agg #[.int .i64 a0, .slice A l.length c]] w fun e w' => ∃ v0_ : Value, e = .returned (v0_) ∧ Kd.S (Kd.slice 2 (Kd.int .i64)) 54 w' w.heap.size (fun _ => True) v0_ r ∧ Below w.heap.size w w' := by
  have HR := Aside0.mk hr
  have HC := Aside0.mk hc
  unfold Ext.table.f at h
  obtain ⟨⟨rk, er⟩, A1_, H⟩ := Option.bind_eq_some_iff.mp h
  have HS := Aside0.mk A1_
  dsimp only at H
  by_cases c1 : 0 ≤ wrap64 ((rk.length : Int) - 1) ∧ wrap64 ((rk.length : Int) - 1) < (rk.length : Int)
  case neg => rw [if_neg c1] at H; exact absurd H (by simp)
  rw [if_pos c1] at H
  obtain ⟨al, hal⟩ : ∃ al, rd rk (wrap64 ((rk.length : Int) - 1)) = al := ⟨_, rfl⟩
  rw [hal] at H
  unfold tableOf at H
  obtain ⟨n, hn⟩ : ∃ n, wrap64 (al + 1) = n := ⟨_, rfl⟩
  obtain ⟨m, hm⟩ : ∃ m, wrap64 (wrap64 (a0 - al) + 1) = m := ⟨_, rfl⟩
  rw [hn, hm] at H
  by_cases c2 : 0 ≤ n ∧ n ≤ 1000 ∧ 0 ≤ m ∧ m ≤ 1000
  case neg => rw [if_neg c2] at H; exact absurd H (by simp)
  rw [if_pos c2] at H
  obtain ⟨T1, HF0, HG0⟩ := Option.bind_eq_some_iff.mp H
  have HF := Aside0.mk HF0
  have HG := Aside0.mk HG0
  have d1 := eq_true c1.1
  have d2 := eq_true c1.2
  have HN := Aside0.mk c2
  have HAL := Aside0.mk hal
  have d3 := eq_true (show 0 ≤ wrap64 (al + 1) by rw [hn]; exact c2.1)
  have HNN := Aside0.mk hn
  have HMM := Aside0.mk hm
  have HC1 := Aside0.mk c1
  clear hr hc h A1_ H HF0 HG0 c1 c2 hal hn hm
  go_enter Try.func47, Try.ntmps47
  go_upto_region 3 with (first | ((with_reducible refine gate_dst (N := 1) rfl ?_); refine box_event ?hg (N := 1) ?hd (cs := #[.int .i64 a0, .slice A l.length c]) (t := 33) ?hr ?_; (case hd => rfl); (case hg => rfl); (case hr => first | (go_simp; done) | (go_simp; rfl)); intro g1 hg1 w1 hbox hb; have B1 := Aside0.mk hbox; have HB1 := Aside0.mk hb; have hc0 := blk_cell hbox 0; have hc1 := blk_cell hbox 1; clear hbox hg1 hb) | (go_at_call 26; (with_reducible refine (axioms_Ranks.calls k a0 A c l rk er _ (Kd.C_below HR.out HB1.out) HC.out HS.out).mono ?_); rintro e_ w2 ⟨v0, rfl, hv, hb⟩; have HV := Aside0.mk hv; have HB2 := Aside0.mk hb; have B2 := Aside0.mk (blk_below B1.out hb); have hc2 := blk_cell B2.out 0; obtain ⟨Av, cv, ev⟩ := Kd.R_slice hv; subst ev; obtain ⟨ad, ead, hx⟩ := Kd.at_int (Kd.R_reads' hv).2.2 _ HC1.out.1 HC1.out.2; rw [HAL.out] at hx; have HEA := Aside0.mk ead; subst ead; clear hv hb))
  have FB := Aside0.mk (below_step HB1.out HB2.out)
  have SZ := Aside0.mk (Nat.le_trans HB1.out.size HB2.out.size)
  clear HB1 HB2 B1 hc0 hc1 hx HEA HS HAL HC1 HR HC
  go_upto_region 4 with ((with_reducible refine gate_dst (N := 23) rfl ?_); refine Kd.S_make (Kd.slice 2 (Kd.int .i64)) (w0 := w2) w2.heap.size 54 rfl (N := 23) rfl 48 _ _ rfl (wrap64 (al + 1)) rfl rfl Try.underlying48 (.slice none 0 0) 24 info54 rfl (by decide) (by omega) [] (ok := fun _ => True) (okp := fun _ => True) ?hz (fun _ hk => hk) trivial ?h0 ?hl (Below.refl _ _) (Nat.le_refl _) ?_; (case hz => exact ⟨_, rfl, Kd.R_nil _ _ _ _ _⟩); (case h0 => rw [HNN.out]; exact HN.out.1); (case hl => rw [HNN.out]; have := HN.out; omega); intro v6 w3 hv hb hg hnew; rw [HNN.out] at hv; have GS := Aside0.mk hv; have GB := Aside0.mk hb; clear hv hb hg hnew)
  clear hc2
  obtain ⟨T0, hT0⟩ : ∃ T0, List.replicate n.toNat ([] : List Int) = T0 := ⟨_, rfl⟩
  rw [hT0] at GS HF
  obtain ⟨A6, c6, rfl⟩ := Kd.S_slice GS.out
  obtain rfl : n = (T0.length : Int) := by have := HN.out.1; rw [← hT0, List.length_replicate]; omega
  clear hT0
  go_wp2
  go_loopg [26] 2000 (fun kq v26 W' => ∃ (i : Int) (T : List (List Int)), v26 = .int .i64 i ∧ Aside0 (fillT (T0.length : Int) m kq i T = some T1) ∧ Aside0 (T.length = T0.length) ∧ Aside0 (Below w2.heap.size w2 W') ∧ Aside0 (Tab W' w2.heap.size (.slice A6 T0.length c6) T))
  case atStart => exact ⟨0, T0, rfl, HF, ⟨rfl⟩, GB, GS⟩
  case round =>
    clear HF GB GS
    obtain ⟨i, T, rfl, HF, HLT, GB, GS⟩ := hrel
    cases gk with
    | zero => exact absurd HF.out (by simp [fillT])
    | succ k1 =>
      have H := HF.out
      clear HF
      simp only [fillT] at H
      by_cases c1 : i < (T0.length : Int)
      · rw [if_pos c1] at H
        by_cases c2 : 0 ≤ i ∧ i < (T.length : Int)
        case neg => rw [if_neg c2] at H; exact absurd H (by simp)
        case pos =>
          rw [if_pos c2] at H
          have HN1 := Aside0.mk H
          have HI := Aside0.mk c2
          have GS' := GS.out
          rw [← HLT.out] at GS'
          obtain ⟨g, cap, ev, _⟩ := tab_form GS' (by omega)
          rw [HLT.out] at GS' ev
          injection ev with ev1 ev2 ev3
          subst ev1 ev3
          have d5 := eq_true c2.1
          clear H c2 GS'
          have hcb : wr.cell? ⟨g1, 0, none⟩ = some (.int .i64 a0) := (blk_cell (blk_below B2.out GB.out) 0).trans rfl
          have HMP := Aside0.mk (show 0 ≤ wrap64 (wrap64 (a0 - al) + 1) by rw [HMM.out]; exact HN.out.2.2.1)
          go_wp2_with ((with_reducible refine gate_dst (N := 36) rfl ?_); refine Kd.R_make (Kd.int .i64) (w0 := wr) wr.heap.size 2 rfl (N := 36) rfl 54 _ _ rfl (wrap64 (wrap64 (a0 - al) + 1)) rfl rfl Try.underlying54 (.int .i64 0) 8 info2 rfl (by decide) (by omega) 0 (ok := fun _ => True) (okp := fun _ => True) rfl (fun _ hk => hk) trivial HMP.out ?hl (Below.refl _ _) (Nat.le_refl _) ?_; (case hl => rw [HMM.out]; have := HN.out; omega); intro v36 w4 hv hb hg hnew; rw [HMM.out] at hv; obtain ⟨A36, c36, e36⟩ := Kd.R_slice hv; subst e36; obtain ⟨⟨eu, he1⟩, he2, he3⟩ := tab_put (W := wr) (W1 := w4) (v1 := _) (T := T) (by rw [HLT.out]; exact GS.out) hb GB.out.size hv i HI.out.1 HI.out.2; have EP := Aside0.mk he3; have GB4 := Aside0.mk (below_step GB.out hb); have GE := Aside0.mk (Kd.S_base GS.out _ rfl); clear hg hnew he3 hv hb GB GS)
          go_roundg k1
          case measure => omega
          case rel => exact ⟨wrap64 (i + 1), _, rfl, HN1, ⟨by rw [List.length_set]; exact HLT.out⟩, ⟨below_set GB4.out GE.out⟩, ⟨by rw [← HLT.out]; simpa only [List.length_replicate] using EP.out⟩⟩
      · rw [if_neg c1] at H
        obtain rfl := Option.some.inj H
        clear H
        clear HLT HNN HN HMM
        go_wp2
        go_loopg [41] 1000 (fun kq v41 W' => ∃ (s : Int) (T : List (List Int)), v41 = .int .i64 s ∧ Aside0 (sumT rk al kq s T = some r) ∧ Aside0 (Below w2.heap.size w2 W') ∧ Aside0 (Tab W' w2.heap.size (.slice A6 T0.length c6) T))
        case atStart => exact ⟨0, T, rfl, HG, GB, GS⟩
        case round =>
          clear HG GB GS
          obtain ⟨s, T2, rfl, HF, GB, GS⟩ := hrel
          cases gk with
          | zero => exact absurd HF.out (by simp [sumT])
          | succ k2 =>
            have H := HF.out
            clear HF
            simp only [sumT] at H
            by_cases c3 : s < (rk.length : Int)
            · rw [if_pos c3] at H
              by_cases c4 : 0 ≤ s
              case neg => rw [if_neg c4] at H; exact absurd H (by simp)
              case pos =>
                rw [if_pos c4] at H
                obtain ⟨ad', e, hx⟩ := Kd.at_int (Kd.R_reads' HV.out).2.2 s c4 c3
                injection e with e
                subst e
                obtain ⟨x, hxr⟩ : ∃ x, rd rk s = x := ⟨_, rfl⟩
                rw [hxr] at hx H
                have hx2 := (GB.out.cell (World.block_lt_of_cell? w2 _ hx)).trans hx
                obtain ⟨z, HZ0, H2⟩ := Option.bind_eq_some_iff.mp H
                obtain ⟨T3, HA0, H3⟩ := Option.bind_eq_some_iff.mp H2
                have HZ := Aside0.mk HZ0
                have HA := Aside0.mk HA0
                have HN2 := Aside0.mk H3
                have c4b := eq_true c4
                clear H H2 H3 HZ0 HA0 hxr hx c4
                go_wp2_with (first | (go_at_call 75; (with_reducible refine (tutte_size.calls s z _ HZ.out).mono ?_); rintro e_ w5 ⟨rfl, q, rfl⟩) | (go_at_call 74; (with_reducible refine (added_calls _ _ _ T2 T3 w2 _ (pw_below_drewN GB.out _) (Kd.S_drewN GS.out _) HA.out).mono ?_); rintro e_ w6 ⟨rfl, hb, hs⟩; have GB6 := Aside0.mk hb; have GS6 := Aside0.mk hs; clear hb hs))
                go_roundg k2
                case measure => omega
                case rel => exact ⟨wrap64 (s + 1), T3, rfl, HN2, GB6, GS6⟩
            · rw [if_neg c3] at H
              obtain rfl := Option.some.inj H
              clear H
              go_wp2
              go_ret
              exact ⟨_, rfl, Kd.S_lower GS.out SZ.out, below_step FB.out GB.out⟩
end Go.Proofs.Ytkppdmlellmepaa
