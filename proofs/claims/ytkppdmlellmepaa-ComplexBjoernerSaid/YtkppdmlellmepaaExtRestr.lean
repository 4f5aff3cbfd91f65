/-
  complex.Restriction: of each facet of a shelling the elements without which it lies in one ahead.
-/
import Derived.Test.YtkppdmlellmepaaExtFaces
import Derived.Test.YtkppdmlellmepaaPBx5
namespace Go.Proofs.Ytkppdmlellmepaa
open Go.RowKit Go.Proofs.YtkppdmlellmepaaW.PrintWords Go.Proofs.YtkppdmlellmepaaW.PrintLast Go.Proofs.YtkppdmlellmepaaW.PrintMore
open PB

set_option maxHeartbeats 800000 in
theorem restr1_calls (g1 g2 : Nat) (f x y : Int) (w : World) (hb : w.heap[g1]? = some (.cells #[.int .i64 f] 3 (0, 0))) (hb2 : w.heap[g2]? = some (.cells #[.int .i64 x] 3 (0, 0))) :
    Calls Try.prog 44 #[.int .i64 y, .pointer (some ⟨g1, 0, none⟩), .pointer (some ⟨g2, 0, none⟩)] w fun e w' => e = .returned (.bool (Go.bits .and .i64 y f == Go.bits .andNot .i64 f x)) ∧ ∃ q, w' = w.drewN q := by
  have hc0 : w.cell? ⟨g1, 0, none⟩ = some (.int .i64 f) := (blk_cell hb 0).trans rfl
  have hc1 : w.cell? ⟨g2, 0, none⟩ = some (.int .i64 x) := (blk_cell hb2 0).trans rfl
  clear hb hb2
  go_enter Try.func44, Try.ntmps44
  go_wp2
  go_ret
  exact ⟨rfl, 0, rfl⟩

/-- the elements of t, each looked at, from the least on. -/
def restrT (o : List Int) (f : Int) : Nat → Int → Int → Option Int
  | 0, _, _ => none
  | k + 1, r, t => if t = 0 then some r else if o.any (fun g => Go.bits .and .i64 g f == Go.bits .andNot .i64 f (Go.bits .and .i64 t (wrap64 (-t)))) = true then
      restrT o f k (Go.bits .or .i64 r (Go.bits .and .i64 t (wrap64 (-t)))) (Go.bits .and .i64 t (wrap64 (t - 1))) else restrT o f k r (Go.bits .and .i64 t (wrap64 (t - 1)))

def restrL (o : List Int) : Nat → List Int → Int → Option (List Int)
  | 0, _, _ => none
  | k + 1, out, i => if i < (o.length : Int) then (if 0 ≤ i then ((restrT (o.take i.toNat) (rd o i) 100 0 (rd o i)).bind fun r => if out.length < 17592186044416 then restrL o k (out ++ [r]) (wrap64 (i + 1)) else none) else none) else some out

def Ext.Restriction.f (k : Nat) (a0 : Int) (l1 l2 : List Int) : Option (List Int × Int) :=
  (complex_Shells.f k a0 l1 l2).bind fun t => if t.2 ≠ 0 then some ([], t.2) else if t.1 = false then some ([], 5) else (restrL l2 1000 [] 0).bind fun out => some (out, 0)

theorem Ext.Restriction.mono : ∀ a0 a1 a2 k, LeO (Ext.Restriction.f k a0 a1 a2) (Ext.Restriction.f (k + 1) a0 a1 a2) := fun a0 a1 a2 k => LeO.bind (complex_Shells.mono a0 a1 a2 k) (fun _ => LeO.refl _)

set_option maxRecDepth 100000 in
set_option maxHeartbeats 3200000 in
theorem Ext.Restriction.calls (k : Nat) (a0 : Int) (A1 : Option Addr) (c1 : Nat) (l1 : List Int) (A2 : Option Addr) (c2 : Nat) (l2 : List Int) (r1 : List Int) (r2 : Int) (w : World) (hr1 : Kd.C (Kd.int .i64) w A1 l1.length l1) (hc1 : l1.length ≤ c1) (hr2 : Kd.C (Kd.int .i64) w A2 l2.length l2) (hc2 : l2.length ≤ c2) (h : Ext.Restriction.f k a0 l1 l2 = some (r1, r2)) :
    Calls Try.prog 15 #[.int .i64 a0, .slice A1 l1.length c1, .slice A2 l2.length c2] w fun e w' => ∃ v1_ : Value, e = .returned (.tuple #[v1_, .int .i64 r2]) ∧ Kd.R (Kd.int .i64) 3 w' w.heap.size (fun _ => True) v1_ r1 ∧ Below w.heap.size w w' := by
  have HR1 := Aside0.mk hr1
  have HC1 := Aside0.mk hc1
  have HR2 := Aside0.mk hr2
  have HC2 := Aside0.mk hc2
  unfold Ext.Restriction.f at h
  obtain ⟨⟨ok, e⟩, A1_, H⟩ := Option.bind_eq_some_iff.mp h
  have HS := Aside0.mk A1_
  dsimp only at H
  have eg : ∀ args w, (callFunc 44 args).run Try.prog w = .ok (.enter 44 args) w := enters_of Try.func44 (by kernel_rfl) rfl
  clear hr1 hc1 hr2 hc2 h A1_
  go_enter Try.func15, Try.ntmps15
  by_cases ce : e = 0
  case neg =>
    rw [if_pos ce] at H
    simp only [Option.some.injEq, Prod.mk.injEq] at H
    obtain ⟨rfl, rfl⟩ := H
    have hb0 : (e != 0) = true := bne_iff_ne.2 ce
    clear ce
    go_wp2_with (go_at_call 14; (with_reducible refine (complex_Shells.calls k a0 A1 c1 l1 A2 c2 l2 ok e _ HR1.out HC1.out HR2.out HC2.out HS.out).mono ?_); rintro e_ w1 ⟨rfl, hb⟩; have HB := Aside0.mk hb; clear hb)
    go_ret2
    exact ⟨_, rfl, Kd.R_nil _ _ _ _ _, HB.out⟩
  case pos =>
    rw [if_neg (by simpa using ce)] at H
    have hb0 : (e != 0) = false := by simpa using ce
    clear ce
    cases ok with
    | false =>
      rw [if_pos rfl] at H
      simp only [Option.some.injEq, Prod.mk.injEq] at H
      obtain ⟨rfl, rfl⟩ := H
      go_wp2_with (go_at_call 14; (with_reducible refine (complex_Shells.calls k a0 A1 c1 l1 A2 c2 l2 false e _ HR1.out HC1.out HR2.out HC2.out HS.out).mono ?_); rintro e_ w1 ⟨rfl, hb⟩; have HB := Aside0.mk hb; clear hb)
      go_ret2
      exact ⟨_, rfl, Kd.R_nil _ _ _ _ _, HB.out⟩
    | true =>
      rw [if_neg (by decide)] at H
      obtain ⟨out0, A2_, H3⟩ := Option.bind_eq_some_iff.mp H
      simp only [Option.some.injEq, Prod.mk.injEq] at H3
      obtain ⟨rfl, rfl⟩ := H3
      have H' := Aside0.mk A2_
      clear H A2_
      go_wp2_with (go_at_call 14; (with_reducible refine (complex_Shells.calls k a0 A1 c1 l1 A2 c2 l2 true e _ HR1.out HC1.out HR2.out HC2.out HS.out).mono ?_); rintro e_ w1 ⟨rfl, hb⟩; have GB := Aside0.mk hb; clear hb)
      have GR := Aside0.mk (Kd.R_nil (Kd.int .i64) 3 w1 w.heap.size (fun _ => True))
      clear HS hb0 HR1 HC1
      go_loopg [10, 30] 1000 (fun kq v10 v30 w' => ∃ (i : Int) (out : List Int), v30 = .int .i64 i ∧ Aside0 (restrL l2 kq out i = some out0) ∧ Aside0 (Below w.heap.size w w') ∧ Aside0 (Kd.R (Kd.int .i64) 3 w' w.heap.size (fun _ => True) v10 out))
      case atStart => exact ⟨0, _, rfl, H', GB, GR⟩
      case round =>
        clear H' GB GR
        obtain ⟨i, out, rfl, HA, GB, GR⟩ := hrel
        cases gk with
        | zero => exact absurd HA.out (by simp [restrL])
        | succ k1 =>
          have H := HA.out
          clear HA
          simp only [restrL] at H
          by_cases c1 : i < (l2.length : Int)
          · rw [if_pos c1] at H
            by_cases c2 : 0 ≤ i
            · rw [if_pos c2] at H
              obtain ⟨rr, B1, H⟩ := Option.bind_eq_some_iff.mp H
              by_cases c4' : out.length < 17592186044416
              · rw [if_pos c4'] at H
                have c4 := Aside0.mk c4'
                have H' := Aside0.mk H
                have HT := Aside0.mk B1
                obtain ⟨ad, ead, hx⟩ := Kd.at_int HR2.out i c2 c1
                have HA2 := Aside0.mk ead
                have hxr : wr.cell? (ad.add i.toNat) = some (.int .i64 (rd l2 i)) := (GB.out.cell (World.block_lt_of_cell? w _ hx)).trans hx
                obtain ⟨i0, hi0, _, hsz0, _⟩ := info_parts info3
                obtain ⟨hcut, hAt, hCt⟩ := print_take_of (P := Try.prog) (Value.int .i64) 0 31 3 .i64 Try.underlying31 hi0 hsz0 (some ad) _ l2 i c2 (by omega) HC2.out
                subst ead
                have HRT := Aside0.mk (Kd.C_of_reads (h1 := fun _ => rfl) (hAt _ (Kd.reads_of_C HR2.out)))
                have HLT := Aside0.mk (show (l2.take i.toNat).length ≤ 9223372036854775807 by have := HR2.out.2.1; rw [List.length_take]; omega)
                have c2b := eq_true c2
                have c1b := eq_true c1
                clear H c4' B1 hx hAt hCt hi0 hsz0 HA2
                clear c1 c2
                go_upto_region 10 with ((with_reducible refine gate_dst (N := 12) rfl ?_); refine box_event ?hg (N := 12) ?hd (cs := #[.int .i64 0]) (t := 3) ?hr ?_; (case hd => rfl); (case hg => rfl); (case hr => first | (go_simp; done) | (go_simp; rfl)); intro g12 hg12 w2 hbox hb; have B12 := Aside0.mk hbox; have G12 := Aside0.mk hg12; have HB1 := Aside0.mk hb; have hc12 : w2.cell? ⟨g12, 0, none⟩ = some (.int .i64 0) := (blk_cell hbox 0).trans rfl; have hf12 := blk_frozen hbox 0; clear hbox hg12 hb)
                generalize rd l2 i = f at HT hxr ⊢
                have F : Aside0 (Below w.heap.size w (w2.setCell ⟨g12, 0, none⟩ (.int .i64 f)) ∧ (w2.setCell ⟨g12, 0, none⟩ (.int .i64 f)).heap[g12]? = some (.cells #[.int .i64 f] 3 (0, 0)) ∧ Kd.R (Kd.int .i64) 3 (w2.setCell ⟨g12, 0, none⟩ (.int .i64 f)) w.heap.size (fun _ => True) u10 out) := by
                  have e6 := G12.out
                  have s1 := GB.out.size
                  have hR1 : Kd.R (Kd.int .i64) 3 w2 w.heap.size (fun k => k < wr.heap.size) u10 out := Kd.R_below (Kd.R_mono (Kd.R_bound GR.out) (fun _ h => h.2.2.1)) HB1.out
                  exact ⟨below_set (below_step GB.out HB1.out) (show w.heap.size ≤ g12 by omega), blk_put B12.out 0 _ rfl, Kd.R_mono (Kd.R_far (p := ⟨g12, 0, none⟩) hR1 (fun k hk => show k ≠ g12 by omega) (.int .i64 f)) (fun _ _ => trivial)⟩
                clear B12 G12 HB1 hc12 hf12 GB GR hxr
                generalize (w2.setCell ⟨g12, 0, none⟩ (.int .i64 f)) = W2 at *
                have hc12 : W2.cell? ⟨g12, 0, none⟩ = some (.int .i64 f) := (blk_cell F.out.2.1 0).trans rfl
                have FB := Aside0.mk (Below.refl W2.heap.size W2)
                go_wp2
                clear hc12
                go_loopg [13, 14] 100 (fun kq v13 v14 w' => ∃ (r t : Int), v13 = .int .i64 r ∧ v14 = .int .i64 t ∧ Aside0 (restrT (l2.take i.toNat) f kq r t = some rr) ∧ Aside0 (Below W2.heap.size W2 w'))
                case atStart => exact ⟨0, f, rfl, rfl, HT, FB⟩
                case round =>
                  clear HT FB
                  obtain ⟨r, t, rfl, rfl, HA, FB⟩ := hrel
                  cases gk with
                  | zero => exact absurd HA.out (by simp [restrT])
                  | succ k2 =>
                    have H := HA.out
                    clear HA
                    simp only [restrT] at H
                    by_cases c5 : t = 0
                    · rw [if_pos c5] at H
                      obtain rfl := Option.some.inj H
                      clear H
                      have c5b : (t != 0) = false := by simpa using c5
                      clear c5
                      have GB3 := Aside0.mk (below_step F.out.1 FB.out)
                      have GR3 := Aside0.mk (Kd.R_below F.out.2.2 FB.out)
                      go_wp2_with (first | ((with_reducible refine gate_builtin (b := .append) (xs := #[.tmp 54, .tmp 56]) rfl ?_); at_builtin; refine Kd.R_append (Kd.int .i64) (w0 := w) w.heap.size rfl (.tmp 54) (.tmp 56) 31 3 (.int .i64 0) 8 rfl Try.underlying31 info3 rfl (by decide) (by omega) u10 out r [.int .i64 r] (fun _ => True) (fun _ => False) rfl rfl ?aP (fun _ hk => hk.elim) ?aF ?aO ?aB ?aS ?aL ?_; (case aP => exact rfl); (case aF => exact (fun _ _ => trivial)); (case aO => exact GR3.out); (case aB => exact GB3.out); (case aS => exact GB3.out.size); (case aL => have := c4.out; omega); intro v1 w11 ho hb hg hat; have GB4 := Aside0.mk hb; have GR4 := Aside0.mk ho; clear ho hb hg hat))
                      go_roundg k1
                      case measure => omega
                      case rel => exact ⟨wrap64 (i + 1), _, by first | rfl | (simp; done), H', GB4, GR4⟩
                    · rw [if_neg c5] at H
                      have c5b : (t != 0) = true := bne_iff_ne.2 c5
                      clear c5
                      have H2 := Aside0.mk H
                      clear H
                      go_upto_region 15 with ((with_reducible refine gate_dst (N := 15) rfl ?_); refine box_event ?hg (N := 15) ?hd (cs := #[.int .i64 0]) (t := 3) ?hr ?_; (case hd => rfl); (case hg => rfl); (case hr => first | (go_simp; done) | (go_simp; rfl)); intro g15 hg15 w5 hbox hb; have B15 := Aside0.mk hbox; have G15 := Aside0.mk hg15; have HB5 := Aside0.mk hb; have hc15 : w5.cell? ⟨g15, 0, none⟩ = some (.int .i64 0) := (blk_cell hbox 0).trans rfl; have hf15 := blk_frozen hbox 0; clear hbox hg15 hb)
                      obtain ⟨x, ex⟩ : ∃ x, Go.bits .and .i64 t (wrap64 (-t)) = x := ⟨_, rfl⟩
                      have H3 := H2.out
                      clear H2
                      rw [ex] at *
                      have F2 : Aside0 (Below W2.heap.size W2 (w5.setCell ⟨g15, 0, none⟩ (.int .i64 x)) ∧ (w5.setCell ⟨g15, 0, none⟩ (.int .i64 x)).heap[g12]? = some (.cells #[.int .i64 f] 3 (0, 0)) ∧ (w5.setCell ⟨g15, 0, none⟩ (.int .i64 x)).heap[g15]? = some (.cells #[.int .i64 x] 3 (0, 0))) := by
                        have e15 := G15.out
                        have s1 := FB.out.size
                        have t12 := blk_lt F.out.2.1
                        exact ⟨below_set (below_step FB.out HB5.out) (show W2.heap.size ≤ g15 by omega), blk_far (blk_below F.out.2.1 (below_step FB.out HB5.out)) (show g12 ≠ g15 by omega) _, blk_put B15.out 0 _ rfl⟩
                      clear B15 G15 HB5 hc15 hf15 FB ex
                      generalize (w5.setCell ⟨g15, 0, none⟩ (.int .i64 x)) = W6 at *
                      have hc15 : W6.cell? ⟨g15, 0, none⟩ = some (.int .i64 x) := (blk_cell F2.out.2.2 0).trans rfl
                      have HP : Aside0 (PredAt Try.prog 44 #[.pointer (some ⟨g12, 0, none⟩), .pointer (some ⟨g15, 0, none⟩)] (Value.int .i64) (fun g => Go.bits .and .i64 g f == Go.bits .andNot .i64 f x) W6) := ⟨fun W y hb => restr1_calls g12 g15 f x y W (blk_below F2.out.2.1 hb) (blk_below F2.out.2.2 hb)⟩
                      have HRT6 : Aside0 (Kd.C (Kd.int .i64) W6 (some ad) (l2.take i.toNat).length (l2.take i.toNat)) := ⟨Kd.C_below HRT.out (below_step F.out.1 F2.out.1)⟩
                      by_cases c6 : (l2.take i.toNat).any (fun g => Go.bits .and .i64 g f == Go.bits .andNot .i64 f x) = true
                      · rw [if_pos c6] at H3
                        have H4 := Aside0.mk H3
                        clear H3
                        go_wp2_with (go_at_call 43; refine calls_of_args (args' := #[.slice (some ad) (l2.take i.toNat).length c2, .func (.func 44) #[] #[.pointer (some ⟨g12, 0, none⟩), .pointer (some ⟨g15, 0, none⟩)]]) (by rw [List.length_take]) ?_; (with_reducible refine (has_calls 44 #[.pointer (some ⟨g12, 0, none⟩), .pointer (some ⟨g15, 0, none⟩)] _ eg HP.out HRT6.out HLT.out).mono ?_); rintro e w' ⟨rfl, q, rfl⟩)
                        go_roundg k2
                        case measure => omega
                        case rel => exact ⟨_, _, rfl, by first | rfl | (simp; done), H4, ⟨below_drewN' F2.out.1 q⟩⟩
                      · rw [if_neg c6] at H3
                        have H4 := Aside0.mk H3
                        clear H3
                        go_wp2_with (go_at_call 43; refine calls_of_args (args' := #[.slice (some ad) (l2.take i.toNat).length c2, .func (.func 44) #[] #[.pointer (some ⟨g12, 0, none⟩), .pointer (some ⟨g15, 0, none⟩)]]) (by rw [List.length_take]) ?_; (with_reducible refine (has_calls 44 #[.pointer (some ⟨g12, 0, none⟩), .pointer (some ⟨g15, 0, none⟩)] _ eg HP.out HRT6.out HLT.out).mono ?_); rintro e w' ⟨rfl, q, rfl⟩)
                        go_roundg k2
                        case measure => omega
                        case rel => exact ⟨_, _, rfl, by first | rfl | (simp; done), H4, ⟨below_drewN' F2.out.1 q⟩⟩
              · rw [if_neg c4'] at H
                exact absurd H (by simp)
            · rw [if_neg c2] at H
              exact absurd H (by simp)
          · rw [if_neg c1] at H
            obtain rfl := Option.some.inj H
            clear H
            go_wp2
            go_ret2
            exact ⟨_, rfl, GR.out, GB.out⟩
end Go.Proofs.Ytkppdmlellmepaa
