/-
  tutte.Activities: the elements that are active within a basis, and without.
-/
import Derived.Test.YtkppdmlellmepaaExtActA
namespace Go.Proofs.Ytkppdmlellmepaa
open Go.RowKit Go.Maps Go.Proofs.YtkppdmlellmepaaW.PrintWords Go.Proofs.YtkppdmlellmepaaW.PrintLast Go.Proofs.YtkppdmlellmepaaW.PrintMore
open PB
set_option linter.unusedSimpArgs false

/-- b, i taken out or in, k too. -/
def swapped (b i k : Int) : Int := Go.bits .xor .i64 (Go.bits .xor .i64 b (shl .i64 1 i)) (shl .i64 1 k)

/-- is i the least of those that may be exchanged for it? -/
def actK (b : Int) (S : List Int) (i : Int) : Nat → Int → Bool → Option Bool
  | 0, _, _ => none
  | f + 1, k, least => if k < i then (if 0 ≤ k then (if Go.bits .and .i64 (shr .i64 b i) 1 = Go.bits .and .i64 (shr .i64 b k) 1 then actK b S i f (wrap64 (k + 1)) least else
      (if inR (swapped b i k) = true then (if S.contains (swapped b i k) = true then actK b S i f (wrap64 (k + 1)) false else actK b S i f (wrap64 (k + 1)) least) else none)) else none) else some least

def actI (b n : Int) (S : List Int) : Nat → Int → Int → Int → Option (Int × Int)
  | 0, _, _, _ => none
  | f + 1, i, wi, wo => if i < n then (if 0 ≤ i then (actK b S i 100 0 true).bind fun least => if least = true then
      (if Go.bits .and .i64 (shr .i64 b i) 1 = 1 then actI b n S f (wrap64 (i + 1)) (Go.bits .or .i64 wi (shl .i64 1 i)) wo else actI b n S f (wrap64 (i + 1)) wi (Go.bits .or .i64 wo (shl .i64 1 i))) else actI b n S f (wrap64 (i + 1)) wi wo else none) else some (wi, wo)

def Ext.Activities.f (k : Nat) (a0 : Int) (l : List Int) (b : Int) : Option (Int × Int × Int) :=
  (axioms_Check.f k a0 l).bind fun e => if e = 0 then (if l.all inR = true ∧ inR b = true ∧ l.length ≤ 1000000 then (if l.contains b = true then (actI b a0 l 100 0 0 0).bind fun p => some (p.1, p.2, 0) else some (0, 0, 1)) else none) else some (0, 0, e)

theorem Ext.Activities.mono : ∀ a0 a1 a2 k, LeO (Ext.Activities.f k a0 a1 a2) (Ext.Activities.f (k + 1) a0 a1 a2) := fun a0 a1 _ k => LeO.bind (axioms_Check.mono a0 a1 k) (fun _ => LeO.refl _)

def act_T19 : Bool × List (List Nat × List Nat) := (true,
  [([], []), ([], []), ([0, 1], [0, 1]), ([2], [2]), ([], []), ([], []), ([4, 5], [4, 5]), ([6], [6]), ([3, 7], [3, 7]),
    ([8], [8]), ([9], [9]), ([9], [9]), ([9], [9]), ([12, 9], [9, 12]), ([11, 13, 9], [9, 11, 13]), ([9], [9]),
    ([15, 9], [9, 15]), ([14, 16, 9], [9, 14, 16]), ([10, 17, 9], [9, 10, 17]), ([9, 18], [9, 18])])
def act_B19 : List Nat := [0, 0, 3, 7, 0, 0, 48, 112, 255, 511, 1023, 1023, 1023, 5119, 15359, 1023, 33791, 130047, 262143, 524287]
theorem act_tab19 : rtab .any (opsOf Try.f18 19) = act_T19 := by kernel_rfl
theorem act_bits19 : waitsOk act_T19.2 act_B19 = true := by kernel_rfl

theorem shl_pow (i : Int) : shl .i64 1 i = wrap64 (2 ^ min i.toNat 64) := by
  show IntKind.i64.wrap (1 * 2 ^ min i.toNat 64) = _
  rw [Int.one_mul, i64_w]

theorem take_rd (l : List Int) (j : Nat) (h : j < l.length) : l.take j ++ [rd l j] = l.take (j + 1) := by
  have e : rd l (j : Int) = l[j] := by simp [rd, List.getD_eq_getElem?_getD, h]
  rw [e]; simp

theorem wrap_s (j : Nat) (h : j ≤ 1000000) : wrap64 ((j : Int) + 1) = ((j + 1 : Nat) : Int) := by unfold wrap64; omega

set_option maxRecDepth 100000 in
set_option maxHeartbeats 6400000 in
theorem Ext.Activities.calls (k : Nat) (a0 : Int) (A : Option Addr) (c : Nat) (l : List Int) (b : Int) (r1 r2 r3 : Int) (w : World) (hr : Kd.C (Kd.int .i64) w A l.length l) (hc : l.length ≤ c) (h : Ext.Activities.f k a0 l b = some (r1, r2, r3)) :
    Calls Try.prog 18 #[.agg #[.int .i64 a0, .slice A l.length c], .int .i64 b] w fun e w' => e = .returned (.tuple #[.int .i64 r1, .int .i64 r2, .int .i64 r3]) ∧ Below w.heap.size w w' := by
  have HR := Aside0.mk hr
  have HC := Aside0.mk hc
  unfold Ext.Activities.f at h
  obtain ⟨e, A1_, H⟩ := Option.bind_eq_some_iff.mp h
  have HS := Aside0.mk A1_
  have hmm := @run_makeMap Try.prog
  clear hr hc h A1_
  go_enter Try.func18, Try.ntmps18
  by_cases ce : e = 0
  case neg =>
    rw [if_neg ce] at H
    simp only [Option.some.injEq, Prod.mk.injEq] at H
    obtain ⟨rfl, rfl, rfl⟩ := H
    have hb0 : (e != 0) = true := bne_iff_ne.2 ce
    clear ce
    go_wp2_with (first | ((with_reducible refine gate_dst (N := 2) rfl ?_); refine box_event ?hg (N := 2) ?hd (cs := #[.int .i64 a0, .slice A l.length c]) (t := 33) ?hr ?_; (case hd => rfl); (case hg => rfl); (case hr => first | (go_simp; done) | (go_simp; rfl)); intro g1 hg1 w1 hbox hb; have B1 := Aside0.mk hbox; have HB1 := Aside0.mk hb; have hc0 := blk_cell hbox 0; have hc1 := blk_cell hbox 1; clear hbox hg1 hb) | (go_at_call 25; (with_reducible refine (axioms_Check.calls k a0 A c l e _ (Kd.C_below HR.out HB1.out) HC.out HS.out).mono ?_); rintro e_ w2 ⟨rfl, hb⟩; have HB2 := Aside0.mk hb; clear hb))
    go_ret3
    exact ⟨rfl, below_step HB1.out HB2.out⟩
  case pos =>
    rw [if_pos ce] at H
    subst ce
    by_cases ca : l.all inR = true ∧ inR b = true ∧ l.length ≤ 1000000
    case neg => rw [if_neg ca] at H; exact absurd H (by simp)
    rw [if_pos ca] at H
    have HA := Aside0.mk ca
    have H' := Aside0.mk H
    clear ca H
    go_upto_region 5 with (first | ((with_reducible refine gate_dst (N := 2) rfl ?_); refine box_event ?hg (N := 2) ?hd (cs := #[.int .i64 a0, .slice A l.length c]) (t := 33) ?hr ?_; (case hd => rfl); (case hg => rfl); (case hr => first | (go_simp; done) | (go_simp; rfl)); intro g1 hg1 w1 hbox hb; have B1 := Aside0.mk hbox; have HB1 := Aside0.mk hb; have hc0 := blk_cell hbox 0; have hc1 := blk_cell hbox 1; clear hbox hg1 hb) | (go_at_call 25; (with_reducible refine (axioms_Check.calls k a0 A c l 0 _ (Kd.C_below HR.out HB1.out) HC.out HS.out).mono ?_); rintro e_ w2 ⟨rfl, hb⟩; have HB2 := Aside0.mk hb; have B2 := Aside0.mk (blk_below B1.out hb); clear hb hc0 hc1))
    have FB := Aside0.mk (below_alloc (below_step HB1.out HB2.out) (.map #[] 0))
    have FM := Aside0.mk (MapAt.made w2)
    have FG := Aside0.mk (Nat.le_trans HB1.out.size HB2.out.size)
    have B3 := Aside0.mk (blk_alloc B2.out (.map #[] 0))
    clear HB1 HB2 B1 B2 hmm HS
    generalize w2.alloc (.map #[] 0) = w3 at *
    generalize w2.heap.size = gm at *
    have hc0 := blk_cell B3.out 0
    have hc1 := blk_cell B3.out 1
    go_wp2
    clear hc0 hc1
    go_loopg [23] 1000001 (fun kq v23 W' => ∃ j : Nat, v23 = .int .i64 (j : Int) ∧ Aside0 (j ≤ l.length ∧ l.length + 1 ≤ kq + j) ∧ Aside0 (MapAt W' gm (l.take j)) ∧ Aside0 (Below w.heap.size w W') ∧ Aside0 (W'.heap[g1]? = some (.cells #[.int .i64 a0, .slice A l.length c] 33 (0, 0))))
    case atStart => exact ⟨0, rfl, ⟨⟨Nat.zero_le _, by have := HA.out.2.2; omega⟩⟩, FM, FB, B3⟩
    case round =>
      clear FM FB B3
      obtain ⟨j, rfl, HJ, FM, FB, B3⟩ := hrel
      cases gk with
      | zero => exact absurd HJ.out (by omega)
      | succ k1 =>
        by_cases c1 : (j : Int) < (l.length : Int)
        · obtain ⟨ad, ead, hx⟩ := Kd.at_int HR.out (j : Int) (by omega) c1
          have hx2 := (FB.out.cell (World.block_lt_of_cell? w _ hx)).trans hx
          have HWF := Aside0.mk (show (Lit.int .i64 (rd l (j : Int))).wf = true from by
            have h1 : j < l.length := by omega
            have h2 : rd l (j : Int) = l[j] := by simp [rd, List.getD_eq_getElem?_getD, h1]
            rw [h2]
            exact List.all_eq_true.1 HA.out.1 _ (List.getElem_mem h1))
          have HTK := Aside0.mk (take_rd l j (by omega))
          obtain ⟨x, hxr⟩ : ∃ x, rd l (j : Int) = x := ⟨_, rfl⟩
          rw [hxr] at hx hx2 HWF HTK
          rw [Int.toNat_natCast] at hx2
          have HLN := Aside0.mk (show (l.take j).length < maxLen by have := HA.out.2.2; rw [List.length_take]; unfold maxLen; omega)
          have HW1 := Aside0.mk (wrap_s j (by have := HA.out.2.2; omega))
          have HMB := Aside0.mk (show w.heap.size ≤ gm from FG.out)
          have c0 := eq_true (show (0 : Int) ≤ (j : Int) by omega)
          have HJ2 := Aside0.mk (show j + 1 ≤ l.length ∧ l.length + 1 ≤ k1 + (j + 1) by have := HJ.out; omega)
          have HAD := Aside0.mk ead
          clear hx hxr HJ
          subst ead
          go_wp2_with (at_mapUpdate; refine wpList_mapUpdate_own _ rfl _ _ _ 81 rfl 3 4 law3 Try.underlying81 (plainElem Try.prog 4) gm (l.take j).length (setD (l.take j)) rfl FM.out HLN.out _ _ _ rfl rfl (keyOf_int_mk Try.underlying3 HWF.out) _ [] (plainElem_bool Try.underlying4 true) ?_; intro w5 hown5 hgrow5; have FM5 := Aside0.mk (MapAt.put hown5); have HG5 := Aside0.mk hgrow5; clear hown5 hgrow5)
          go_roundg k1
          case measure => omega
          case rel => exact ⟨j + 1, by rw [HW1.out], HJ2, ⟨by rw [← HTK.out]; exact FM5.out⟩, ⟨pw_below_grown FB.out _ FB.out.size HG5.out (fun k hk => by injection hk with hk; subst hk; exact HMB.out)⟩, ⟨blk_grown B3.out HG5.out (fun e => by injection e with e; subst e; obtain ⟨es, ck, hh, _⟩ := FM.out; rw [B3.out] at hh; cases hh)⟩⟩
        · have HJE := Aside0.mk (show l.take j = l by have := HJ.out; exact List.take_of_length_le (by omega))
          rw [HJE.out] at FM
          clear HJ HJE
          have hlk := FM.out.look b HA.out.2.1
          have H := H'.out
          clear H'
          by_cases cb : l.contains b = true
          case neg =>
            rw [if_neg cb] at H
            simp only [Option.some.injEq, Prod.mk.injEq] at H
            obtain ⟨rfl, rfl, rfl⟩ := H
            have cb2 : l.contains b = false := by simpa using cb
            clear cb
            rw [cb2] at hlk
            go_wp2
            go_ret3
            exact ⟨rfl, FB.out⟩
          case pos =>
            rw [if_pos cb] at H
            rw [cb] at hlk
            clear cb
            obtain ⟨p, HP0, H2⟩ := Option.bind_eq_some_iff.mp H
            simp only [Option.some.injEq, Prod.mk.injEq] at H2
            obtain ⟨rfl, rfl, rfl⟩ := H2
            have HP := Aside0.mk HP0
            have hc0 : wr.cell? ⟨g1, 0, none⟩ = some (.int .i64 a0) := (blk_cell B3.out 0).trans rfl
            clear H HP0 B3
            go_wp2
            clear hlk hc0
            go_loopg [4, 5, 36] 100 (fun kq v4 v5 v36 W' => ∃ (wi wo i : Int), v4 = .int .i64 wi ∧ v5 = .int .i64 wo ∧ v36 = .int .i64 i ∧ Aside0 (actI b a0 l kq i wi wo = some p) ∧ Aside0 (MapAt W' gm l) ∧ Aside0 (Below w.heap.size w W'))
            case atStart => exact ⟨0, 0, 0, rfl, rfl, rfl, HP, FM, FB⟩
            case round =>
              clear HP FM FB
              obtain ⟨wi, wo, i, rfl, rfl, rfl, HP, FM, FB⟩ := hrel
              cases gk with
              | zero => exact absurd HP.out (by simp [actI])
              | succ k2 =>
                have H := HP.out
                clear HP
                simp only [actI] at H
                by_cases d1 : i < a0
                · rw [if_pos d1] at H
                  by_cases d2 : 0 ≤ i
                  case neg => rw [if_neg d2] at H; exact absurd H (by simp)
                  case pos =>
                    rw [if_pos d2] at H
                    obtain ⟨least, HL0, HN0⟩ := Option.bind_eq_some_iff.mp H
                    have HL := Aside0.mk HL0
                    have HN := Aside0.mk HN0
                    have d2b := eq_true d2
                    clear H HL0 HN0 d2
                    go_wp2
                    go_loopg [12, 40] 100 (fun kq v12 v40 W' => ∃ (q : Bool) (t : Int), v12 = .bool q ∧ v40 = .int .i64 t ∧ Aside0 (actK b l i kq t q = some least) ∧ Aside0 (MapAt W' gm l) ∧ Aside0 (Below w.heap.size w W'))
                    case atStart => exact ⟨true, 0, rfl, rfl, HL, FM, FB⟩
                    case round =>
                      clear HL FM FB
                      obtain ⟨q, t, rfl, rfl, HL, FM2, FB2⟩ := hrel
                      cases gk with
                      | zero => exact absurd HL.out (by simp [actK])
                      | succ k3 =>
                        have H := HL.out
                        clear HL
                        simp only [actK] at H
                        by_cases e1 : t < i
                        · rw [if_pos e1] at H
                          by_cases e2 : 0 ≤ t
                          case neg => rw [if_neg e2] at H; exact absurd H (by simp)
                          case pos =>
                            rw [if_pos e2] at H
                            have e2b := eq_true e2
                            clear e2
                            by_cases e3 : Go.bits .and .i64 (shr .i64 b i) 1 = Go.bits .and .i64 (shr .i64 b t) 1
                            · rw [if_pos e3] at H
                              have HN2 := Aside0.mk H
                              have e3b : (Go.bits .and .i64 (b / 2 ^ min (i : Int).toNat 64) 1 != Go.bits .and .i64 (b / 2 ^ min (t : Int).toNat 64) 1) = false := bne_eq_false_iff_eq.mpr e3
                              clear H e3
                              go_wp2
                              refine start_ (n := 20) (S := fun w' => True) (ds := []) #[false, false, false, false, false, false, false, false, false, false, false, false, false, false, false, false, false, false, false, false] (by kernel_rfl) rfl rfl trivial (fun hHeld => ?_); refine with_tabW act_tab19 act_bits19 (fun HT_ HW_ => ?_)
                              have FM3 := Aside0.mk (show MapAt wr.drew gm l from FM2.out)
                              have FB3 := Aside0.mk (below_drew1 FB2.out)
                              clear FM2 FB2
                              generalize wr.drew = w9 at FM3 FB3 hHeld ⊢
                              refine pure_ (i := 0) (N := some 43) (v := ?_) (a' := ?_) #[true, false, false, false, false, false, false, false, false, false, false, false, false, false, false, false, false, false, false, false] rfl rfl (any_of HT_.out (by kernel_rfl)) (fun _ _ _ h => h) (Or.inl ⟨by rfl, ?_⟩) ?_ ?_
                              rotate_left
                              · intro w'
                                go_simp
                                with_reducible rfl
                              rotate_left
                              · simp only [Act.put, List.setIfInBounds_toArray, List.set_cons_zero, List.set_cons_succ, i64_w, i32_w]
                                rfl
                              refine pure_ (i := 1) (N := some 44) (v := ?_) (a' := ?_) #[true, true, false, false, false, false, false, false, false, false, false, false, false, false, false, false, false, false, false, false] rfl rfl (any_of HT_.out (by kernel_rfl)) (fun _ _ _ h => h) (Or.inl ⟨by rfl, ?_⟩) ?_ ?_
                              rotate_left
                              · intro w'
                                go_simp
                                with_reducible rfl
                              rotate_left
                              · simp only [Act.put, List.setIfInBounds_toArray, List.set_cons_zero, List.set_cons_succ, i64_w, i32_w]
                                rfl
                              refine pure_ (i := 2) (N := some 45) (v := ?_) (a' := ?_) #[true, true, true, false, false, false, false, false, false, false, false, false, false, false, false, false, false, false, false, false] rfl rfl (any_of HT_.out (by kernel_rfl)) (fun _ _ _ h => h) (Or.inl ⟨by rfl, ?_⟩) ?_ ?_
                              rotate_left
                              · intro w'
                                go_simp
                                with_reducible rfl
                              rotate_left
                              · simp only [Act.put, List.setIfInBounds_toArray, List.set_cons_zero, List.set_cons_succ, i64_w, i32_w]
                                rfl
                              refine pure_ (i := 3) (N := some 46) (v := ?_) (a' := ?_) #[true, true, true, true, false, false, false, false, false, false, false, false, false, false, false, false, false, false, false, false] rfl rfl (any_of HT_.out (by kernel_rfl)) (fun _ _ _ h => h) (Or.inl ⟨by rfl, ?_⟩) ?_ ?_
                              rotate_left
                              · intro w'
                                go_simp
                                with_reducible rfl
                              rotate_left
                              · simp only [Act.put, List.setIfInBounds_toArray, List.set_cons_zero, List.set_cons_succ, i64_w, i32_w]
                                rfl
                              refine pure_ (i := 4) (N := some 47) (v := ?_) (a' := ?_) #[true, true, true, true, true, false, false, false, false, false, false, false, false, false, false, false, false, false, false, false] rfl rfl (any_of HT_.out (by kernel_rfl)) (fun _ _ _ h => h) (Or.inl ⟨by rfl, ?_⟩) ?_ ?_
                              rotate_left
                              · intro w'
                                go_simp
                                with_reducible rfl
                              rotate_left
                              · simp only [Act.put, List.setIfInBounds_toArray, List.set_cons_zero, List.set_cons_succ, i64_w, i32_w]
                                rfl
                              refine pure_ (i := 5) (N := some 48) (v := ?_) (a' := ?_) #[true, true, true, true, true, true, false, false, false, false, false, false, false, false, false, false, false, false, false, false] rfl rfl (any_of HT_.out (by kernel_rfl)) (fun _ _ _ h => h) (Or.inl ⟨by rfl, ?_⟩) ?_ ?_
                              rotate_left
                              · intro w'
                                go_simp
                                with_reducible rfl
                              rotate_left
                              · simp only [Act.put, List.setIfInBounds_toArray, List.set_cons_zero, List.set_cons_succ, i64_w, i32_w]
                                rfl
                              refine pure_ (i := 6) (N := some 49) (v := ?_) (a' := ?_) #[true, true, true, true, true, true, true, false, false, false, false, false, false, false, false, false, false, false, false, false] rfl rfl (any_of HT_.out (by kernel_rfl)) (fun _ _ _ h => h) (Or.inl ⟨by rfl, ?_⟩) ?_ ?_
                              rotate_left
                              · intro w'
                                go_simp
                                with_reducible rfl
                              rotate_left
                              · simp only [Act.put, List.setIfInBounds_toArray, List.set_cons_zero, List.set_cons_succ, i64_w, i32_w]
                                rfl
                              refine pure_ (i := 7) (N := some 50) (v := ?_) (a' := ?_) #[true, true, true, true, true, true, true, true, false, false, false, false, false, false, false, false, false, false, false, false] rfl rfl (any_of HT_.out (by kernel_rfl)) (fun _ _ _ h => h) (Or.inl ⟨by rfl, ?_⟩) ?_ ?_
                              rotate_left
                              · intro w'
                                go_simp
                                with_reducible rfl
                              rotate_left
                              · simp only [Act.put, List.setIfInBounds_toArray, List.set_cons_zero, List.set_cons_succ, i64_w, i32_w]
                                rfl
                              refine pure_ (i := 8) (N := some 51) (v := ?_) (a' := ?_) #[true, true, true, true, true, true, true, true, true, false, false, false, false, false, false, false, false, false, false, false] rfl rfl (any_of HT_.out (by kernel_rfl)) (fun _ _ _ h => h) (Or.inl ⟨by rfl, ?_⟩) ?_ ?_
                              rotate_left
                              · intro w'
                                go_simp
                                with_reducible rfl
                              rotate_left
                              · simp only [Act.put, List.setIfInBounds_toArray, List.set_cons_zero, List.set_cons_succ, i64_w, i32_w]
                                rfl
                              refine pure_ (i := 9) (N := some 52) (v := ?_) (a' := ?_) #[true, true, true, true, true, true, true, true, true, true, false, false, false, false, false, false, false, false, false, false] rfl rfl (any_of HT_.out (by kernel_rfl)) (fun _ _ _ h => h) (Or.inl ⟨by rfl, ?_⟩) ?_ ?_
                              rotate_left
                              · intro w'
                                go_simp
                                with_reducible rfl
                              rotate_left
                              · simp only [Act.put, List.setIfInBounds_toArray, List.set_cons_zero, List.set_cons_succ, i64_w, i32_w]
                                rfl
                              refine pure_ (i := 10) (N := some 53) (v := undef) (a' := ?_) #[true, true, true, true, true, true, true, true, true, true, true, false, false, false, false, false, false, false, false, false] rfl rfl (any_of HT_.out (by kernel_rfl)) (fun _ _ _ h => h) (Or.inr ⟨by rfl, rfl⟩) ?_ ?_
                              rotate_left
                              · simp only [Act.put, List.setIfInBounds_toArray, List.set_cons_zero, List.set_cons_succ, i64_w, i32_w]
                                rfl
                              refine pure_ (i := 11) (N := some 54) (v := undef) (a' := ?_) #[true, true, true, true, true, true, true, true, true, true, true, true, false, false, false, false, false, false, false, false] rfl rfl (any_of HT_.out (by kernel_rfl)) (fun _ _ _ h => h) (Or.inr ⟨by rfl, rfl⟩) ?_ ?_
                              rotate_left
                              · simp only [Act.put, List.setIfInBounds_toArray, List.set_cons_zero, List.set_cons_succ, i64_w, i32_w]
                                rfl
                              refine pure_ (i := 12) (N := some 55) (v := undef) (a' := ?_) #[true, true, true, true, true, true, true, true, true, true, true, true, true, false, false, false, false, false, false, false] rfl rfl (any_of HT_.out (by kernel_rfl)) (fun _ _ _ h => h) (Or.inr ⟨by rfl, rfl⟩) ?_ ?_
                              rotate_left
                              · simp only [Act.put, List.setIfInBounds_toArray, List.set_cons_zero, List.set_cons_succ, i64_w, i32_w]
                                rfl
                              refine pure_ (i := 13) (N := some 56) (v := undef) (a' := ?_) #[true, true, true, true, true, true, true, true, true, true, true, true, true, true, false, false, false, false, false, false] rfl rfl (any_of HT_.out (by kernel_rfl)) (fun _ _ _ h => h) (Or.inr ⟨by rfl, rfl⟩) ?_ ?_
                              rotate_left
                              · simp only [Act.put, List.setIfInBounds_toArray, List.set_cons_zero, List.set_cons_succ, i64_w, i32_w]
                                rfl
                              refine pure_ (i := 14) (N := some 57) (v := undef) (a' := ?_) #[true, true, true, true, true, true, true, true, true, true, true, true, true, true, true, false, false, false, false, false] rfl rfl (any_of HT_.out (by kernel_rfl)) (fun _ _ _ h => h) (Or.inr ⟨by rfl, rfl⟩) ?_ ?_
                              rotate_left
                              · simp only [Act.put, List.setIfInBounds_toArray, List.set_cons_zero, List.set_cons_succ, i64_w, i32_w]
                                rfl
                              refine pure_ (i := 15) (N := some 58) (v := undef) (a' := ?_) #[true, true, true, true, true, true, true, true, true, true, true, true, true, true, true, true, false, false, false, false] rfl rfl (any_of HT_.out (by kernel_rfl)) (fun _ _ _ h => h) (Or.inr ⟨by rfl, rfl⟩) ?_ ?_
                              rotate_left
                              · simp only [Act.put, List.setIfInBounds_toArray, List.set_cons_zero, List.set_cons_succ, i64_w, i32_w]
                                rfl
                              refine pure_ (i := 16) (N := some 59) (v := undef) (a' := ?_) #[true, true, true, true, true, true, true, true, true, true, true, true, true, true, true, true, true, false, false, false] rfl rfl (any_of HT_.out (by kernel_rfl)) (fun _ _ _ h => h) (Or.inr ⟨by rfl, rfl⟩) ?_ ?_
                              rotate_left
                              · simp only [Act.put, List.setIfInBounds_toArray, List.set_cons_zero, List.set_cons_succ, i64_w, i32_w]
                                rfl
                              refine pure_ (i := 17) (N := some 60) (v := undef) (a' := ?_) #[true, true, true, true, true, true, true, true, true, true, true, true, true, true, true, true, true, true, false, false] rfl rfl (any_of HT_.out (by kernel_rfl)) (fun _ _ _ h => h) (Or.inr ⟨by rfl, rfl⟩) ?_ ?_
                              rotate_left
                              · simp only [Act.put, List.setIfInBounds_toArray, List.set_cons_zero, List.set_cons_succ, i64_w, i32_w]
                                rfl
                              refine pure_ (i := 18) (N := some 61) (v := undef) (a' := ?_) #[true, true, true, true, true, true, true, true, true, true, true, true, true, true, true, true, true, true, true, false] rfl rfl (any_of HT_.out (by kernel_rfl)) (fun _ _ _ h => h) (Or.inr ⟨by rfl, rfl⟩) ?_ ?_
                              rotate_left
                              · simp only [Act.put, List.setIfInBounds_toArray, List.set_cons_zero, List.set_cons_succ, i64_w, i32_w]
                                rfl
                              refine pure_ (i := 19) (N := some 62) (v := ?_) (a' := ?_) #[true, true, true, true, true, true, true, true, true, true, true, true, true, true, true, true, true, true, true, true] rfl rfl (any_of HT_.out (by kernel_rfl)) (fun _ _ _ h => h) (Or.inl ⟨by rfl, ?_⟩) ?_ ?_
                              rotate_left
                              · intro w'
                                go_simp
                                with_reducible rfl
                              rotate_left
                              · simp only [Act.put, List.setIfInBounds_toArray, List.set_cons_zero, List.set_cons_succ, i64_w, i32_w]
                                rfl
                              refine done_ (done_of HT_.out (by kernel_rfl)) ?_
                              try go_wp2
                              go_roundg k3
                              case measure => omega
                              case rel => exact ⟨q, wrap64 (t + 1), rfl, rfl, HN2, FM3, FB3⟩
                            · rw [if_neg e3] at H
                              by_cases e4 : inR (swapped b i t) = true
                              case neg => rw [if_neg e4] at H; exact absurd H (by simp)
                              case pos =>
                                rw [if_pos e4] at H
                                have HK := Aside0.mk e4
                                have e3b : (Go.bits .and .i64 (b / 2 ^ min (i : Int).toNat 64) 1 != Go.bits .and .i64 (b / 2 ^ min (t : Int).toNat 64) 1) = true := bne_iff_ne.mpr e3
                                clear e4 e3
                                go_wp2
                                obtain ⟨key, hkey⟩ : ∃ key, swapped b i t = key := ⟨_, rfl⟩
                                have hkA : Go.bits .xor .i64 (Go.bits .xor .i64 b (IntKind.i64.wrap (1 * 2 ^ min i.toNat 64))) (IntKind.i64.wrap (1 * 2 ^ min t.toNat 64)) = key := hkey
                                have hkB : Go.bits .xor .i64 (Go.bits .xor .i64 b (IntKind.i64.wrap (2 ^ min i.toNat 64))) (IntKind.i64.wrap (2 ^ min t.toNat 64)) = key := by have h_ := hkA; rw [Int.one_mul, Int.one_mul] at h_; exact h_
                                have hkC : Go.bits .xor .i64 (Go.bits .xor .i64 b (wrap64 (2 ^ min i.toNat 64))) (wrap64 (2 ^ min t.toNat 64)) = key := by have h_ := hkB; simp only [i64_w] at h_; exact h_
                                rw [hkey] at H HK
                                clear hkey
                                by_cases e5 : l.contains key = true
                                · rw [if_pos e5] at H
                                  have HN2 := Aside0.mk H
                                  clear H
                                  refine start_ (n := 20) (S := fun w' => (Instr.lookup 81 (.map (some gm)) (.int .i64 key) false).run Try.prog w' = .ok (.bool true) w') (ds := []) #[false, false, false, false, false, false, false, false, false, false, false, false, false, false, false, false, false, false, false, false] (by kernel_rfl) rfl rfl (by have h_ := (show MapAt wr.drew gm l from FM2.out).look key HK.out; rw [e5] at h_; exact h_) (fun hHeld => ?_); refine with_tabW act_tab19 act_bits19 (fun HT_ HW_ => ?_)
                                  have FM3 := Aside0.mk (show MapAt wr.drew gm l from FM2.out)
                                  have FB3 := Aside0.mk (below_drew1 FB2.out)
                                  clear FM2 FB2
                                  generalize wr.drew = w9 at FM3 FB3 hHeld ⊢
                                  refine pure_ (i := 0) (N := some 43) (v := ?_) (a' := ?_) #[true, false, false, false, false, false, false, false, false, false, false, false, false, false, false, false, false, false, false, false] rfl rfl (any_of HT_.out (by kernel_rfl)) (fun _ _ _ h => h) (Or.inl ⟨by rfl, ?_⟩) ?_ ?_
                                  rotate_left
                                  · intro w'
                                    go_simp
                                    with_reducible rfl
                                  rotate_left
                                  · simp only [Act.put, List.setIfInBounds_toArray, List.set_cons_zero, List.set_cons_succ, i64_w, i32_w]
                                    rfl
                                  refine pure_ (i := 1) (N := some 44) (v := ?_) (a' := ?_) #[true, true, false, false, false, false, false, false, false, false, false, false, false, false, false, false, false, false, false, false] rfl rfl (any_of HT_.out (by kernel_rfl)) (fun _ _ _ h => h) (Or.inl ⟨by rfl, ?_⟩) ?_ ?_
                                  rotate_left
                                  · intro w'
                                    go_simp
                                    with_reducible rfl
                                  rotate_left
                                  · simp only [Act.put, List.setIfInBounds_toArray, List.set_cons_zero, List.set_cons_succ, i64_w, i32_w]
                                    rfl
                                  refine pure_ (i := 2) (N := some 45) (v := ?_) (a' := ?_) #[true, true, true, false, false, false, false, false, false, false, false, false, false, false, false, false, false, false, false, false] rfl rfl (any_of HT_.out (by kernel_rfl)) (fun _ _ _ h => h) (Or.inl ⟨by rfl, ?_⟩) ?_ ?_
                                  rotate_left
                                  · intro w'
                                    go_simp
                                    with_reducible rfl
                                  rotate_left
                                  · simp only [Act.put, List.setIfInBounds_toArray, List.set_cons_zero, List.set_cons_succ, i64_w, i32_w]
                                    rfl
                                  refine pure_ (i := 3) (N := some 46) (v := ?_) (a' := ?_) #[true, true, true, true, false, false, false, false, false, false, false, false, false, false, false, false, false, false, false, false] rfl rfl (any_of HT_.out (by kernel_rfl)) (fun _ _ _ h => h) (Or.inl ⟨by rfl, ?_⟩) ?_ ?_
                                  rotate_left
                                  · intro w'
                                    go_simp
                                    with_reducible rfl
                                  rotate_left
                                  · simp only [Act.put, List.setIfInBounds_toArray, List.set_cons_zero, List.set_cons_succ, i64_w, i32_w]
                                    rfl
                                  refine pure_ (i := 4) (N := some 47) (v := ?_) (a' := ?_) #[true, true, true, true, true, false, false, false, false, false, false, false, false, false, false, false, false, false, false, false] rfl rfl (any_of HT_.out (by kernel_rfl)) (fun _ _ _ h => h) (Or.inl ⟨by rfl, ?_⟩) ?_ ?_
                                  rotate_left
                                  · intro w'
                                    go_simp
                                    with_reducible rfl
                                  rotate_left
                                  · simp only [Act.put, List.setIfInBounds_toArray, List.set_cons_zero, List.set_cons_succ, i64_w, i32_w]
                                    rfl
                                  refine pure_ (i := 5) (N := some 48) (v := ?_) (a' := ?_) #[true, true, true, true, true, true, false, false, false, false, false, false, false, false, false, false, false, false, false, false] rfl rfl (any_of HT_.out (by kernel_rfl)) (fun _ _ _ h => h) (Or.inl ⟨by rfl, ?_⟩) ?_ ?_
                                  rotate_left
                                  · intro w'
                                    go_simp
                                    with_reducible rfl
                                  rotate_left
                                  · simp only [Act.put, List.setIfInBounds_toArray, List.set_cons_zero, List.set_cons_succ, i64_w, i32_w]
                                    rfl
                                  refine pure_ (i := 6) (N := some 49) (v := ?_) (a' := ?_) #[true, true, true, true, true, true, true, false, false, false, false, false, false, false, false, false, false, false, false, false] rfl rfl (any_of HT_.out (by kernel_rfl)) (fun _ _ _ h => h) (Or.inl ⟨by rfl, ?_⟩) ?_ ?_
                                  rotate_left
                                  · intro w'
                                    go_simp
                                    with_reducible rfl
                                  rotate_left
                                  · simp only [Act.put, List.setIfInBounds_toArray, List.set_cons_zero, List.set_cons_succ, i64_w, i32_w]
                                    rfl
                                  refine pure_ (i := 7) (N := some 50) (v := ?_) (a' := ?_) #[true, true, true, true, true, true, true, true, false, false, false, false, false, false, false, false, false, false, false, false] rfl rfl (any_of HT_.out (by kernel_rfl)) (fun _ _ _ h => h) (Or.inl ⟨by rfl, ?_⟩) ?_ ?_
                                  rotate_left
                                  · intro w'
                                    go_simp
                                    with_reducible rfl
                                  rotate_left
                                  · simp only [Act.put, List.setIfInBounds_toArray, List.set_cons_zero, List.set_cons_succ, i64_w, i32_w]
                                    rfl
                                  refine pure_ (i := 8) (N := some 51) (v := ?_) (a' := ?_) #[true, true, true, true, true, true, true, true, true, false, false, false, false, false, false, false, false, false, false, false] rfl rfl (any_of HT_.out (by kernel_rfl)) (fun _ _ _ h => h) (Or.inl ⟨by rfl, ?_⟩) ?_ ?_
                                  rotate_left
                                  · intro w'
                                    go_simp
                                    with_reducible rfl
                                  rotate_left
                                  · simp only [Act.put, List.setIfInBounds_toArray, List.set_cons_zero, List.set_cons_succ, i64_w, i32_w]
                                    rfl
                                  refine pure_ (i := 9) (N := some 52) (v := ?_) (a' := ?_) #[true, true, true, true, true, true, true, true, true, true, false, false, false, false, false, false, false, false, false, false] rfl rfl (any_of HT_.out (by kernel_rfl)) (fun _ _ _ h => h) (Or.inl ⟨by rfl, ?_⟩) ?_ ?_
                                  rotate_left
                                  · intro w'
                                    go_simp
                                    with_reducible rfl
                                  rotate_left
                                  · simp only [Act.put, List.setIfInBounds_toArray, List.set_cons_zero, List.set_cons_succ, i64_w, i32_w]
                                    rfl
                                  refine pure_ (i := 10) (N := some 53) (v := ?_) (a' := ?_) #[true, true, true, true, true, true, true, true, true, true, true, false, false, false, false, false, false, false, false, false] rfl rfl (any_of HT_.out (by kernel_rfl)) (fun _ _ _ h => h) (Or.inl ⟨by rfl, ?_⟩) ?_ ?_
                                  rotate_left
                                  · intro w'
                                    go_simp
                                    with_reducible rfl
                                  rotate_left
                                  · simp only [Act.put, List.setIfInBounds_toArray, List.set_cons_zero, List.set_cons_succ, i64_w, i32_w]
                                    rfl
                                  refine pure_ (i := 11) (N := some 54) (v := ?_) (a' := ?_) #[true, true, true, true, true, true, true, true, true, true, true, true, false, false, false, false, false, false, false, false] rfl rfl (any_of HT_.out (by kernel_rfl)) (fun _ _ _ h => h) (Or.inl ⟨by rfl, ?_⟩) ?_ ?_
                                  rotate_left
                                  · intro w'
                                    go_simp
                                    with_reducible rfl
                                  rotate_left
                                  · simp only [Act.put, List.setIfInBounds_toArray, List.set_cons_zero, List.set_cons_succ, i64_w, i32_w]
                                    rfl
                                  refine pure_ (i := 12) (N := some 55) (v := ?_) (a' := ?_) #[true, true, true, true, true, true, true, true, true, true, true, true, true, false, false, false, false, false, false, false] rfl rfl (any_of HT_.out (by kernel_rfl)) (fun _ _ _ h => h) (Or.inl ⟨by rfl, ?_⟩) ?_ ?_
                                  rotate_left
                                  · intro w'
                                    go_simp
                                    with_reducible rfl
                                  rotate_left
                                  · simp only [Act.put, List.setIfInBounds_toArray, List.set_cons_zero, List.set_cons_succ, i64_w, i32_w]
                                    rfl
                                  refine pure_ (i := 13) (N := some 56) (v := ?_) (a' := ?_) #[true, true, true, true, true, true, true, true, true, true, true, true, true, true, false, false, false, false, false, false] rfl rfl (any_of HT_.out (by kernel_rfl)) (fun _ _ _ h => h) (Or.inl ⟨by rfl, ?_⟩) ?_ ?_
                                  rotate_left
                                  · intro w'
                                    go_simp
                                    with_reducible rfl
                                  rotate_left
                                  · simp only [Act.put, List.setIfInBounds_toArray, List.set_cons_zero, List.set_cons_succ, i64_w, i32_w]
                                    rfl
                                  refine pure_ (i := 14) (N := some 57) (v := ?_) (a' := ?_) #[true, true, true, true, true, true, true, true, true, true, true, true, true, true, true, false, false, false, false, false] rfl rfl (any_of HT_.out (by kernel_rfl)) (fun _ _ _ h => h) (Or.inl ⟨by rfl, ?_⟩) ?_ ?_
                                  rotate_left
                                  · intro w'
                                    go_simp
                                    with_reducible rfl
                                  rotate_left
                                  · simp only [Act.put, List.setIfInBounds_toArray, List.set_cons_zero, List.set_cons_succ, i64_w, i32_w]
                                    rfl
                                  refine pure_ (i := 15) (N := some 58) (v := ?_) (a' := ?_) #[true, true, true, true, true, true, true, true, true, true, true, true, true, true, true, true, false, false, false, false] rfl rfl (any_of HT_.out (by kernel_rfl)) (fun _ _ _ h => h) (Or.inl ⟨by rfl, ?_⟩) ?_ ?_
                                  rotate_left
                                  · intro w'
                                    go_simp
                                    with_reducible rfl
                                  rotate_left
                                  · simp only [Act.put, List.setIfInBounds_toArray, List.set_cons_zero, List.set_cons_succ, i64_w, i32_w]
                                    rfl
                                  refine pure_ (i := 16) (N := some 59) (v := ?_) (a' := ?_) #[true, true, true, true, true, true, true, true, true, true, true, true, true, true, true, true, true, false, false, false] rfl rfl (any_of HT_.out (by kernel_rfl)) (fun _ _ _ h => h) (Or.inl ⟨by rfl, ?_⟩) ?_ ?_
                                  rotate_left
                                  · intro w'
                                    go_simp
                                    with_reducible rfl
                                  rotate_left
                                  · simp only [Act.put, List.setIfInBounds_toArray, List.set_cons_zero, List.set_cons_succ, i64_w, i32_w]
                                    rfl
                                  refine pure_ (i := 17) (N := some 60) (v := ?_) (a' := ?_) #[true, true, true, true, true, true, true, true, true, true, true, true, true, true, true, true, true, true, false, false] rfl rfl (any_of HT_.out (by kernel_rfl)) (fun _ _ _ h => h) (Or.inl ⟨by rfl, ?_⟩) ?_ ?_
                                  rotate_left
                                  · intro w'
                                    go_simp
                                    with_reducible rfl
                                  rotate_left
                                  · simp only [Act.put, List.setIfInBounds_toArray, List.set_cons_zero, List.set_cons_succ, i64_w, i32_w]
                                    rfl
                                  refine take_ (i := 18) (N := some 61) (v := ?_) (a' := ?_) #[true, true, true, true, true, true, true, true, true, true, true, true, true, true, true, true, true, true, true, false] rfl rfl (take_ofW HT_.out HW_.out (by kernel_rfl)) (fun _ _ _ h => h) (Or.inl ⟨by rfl, ?_⟩) hHeld ?_ ?_
                                  rotate_left
                                  · intro w' s0
                                    go_simp
                                    with_reducible rfl
                                  rotate_left
                                  · simp only [Act.put, List.setIfInBounds_toArray, List.set_cons_zero, List.set_cons_succ, i64_w, i32_w]
                                    rfl
                                  refine pure_ (i := 19) (N := some 62) (v := ?_) (a' := ?_) #[true, true, true, true, true, true, true, true, true, true, true, true, true, true, true, true, true, true, true, true] rfl rfl (any_of HT_.out (by kernel_rfl)) (fun _ _ _ h => h) (Or.inl ⟨by rfl, ?_⟩) ?_ ?_
                                  rotate_left
                                  · intro w'
                                    go_simp
                                    with_reducible rfl
                                  rotate_left
                                  · simp only [Act.put, List.setIfInBounds_toArray, List.set_cons_zero, List.set_cons_succ, i64_w, i32_w]
                                    rfl
                                  refine done_ (done_of HT_.out (by kernel_rfl)) ?_
                                  try go_wp2
                                  go_roundg k3
                                  case measure => omega
                                  case rel => exact ⟨false, wrap64 (t + 1), rfl, rfl, HN2, FM3, FB3⟩
                                · rw [if_neg e5] at H
                                  have HN2 := Aside0.mk H
                                  have e5b : l.contains key = false := by simpa using e5
                                  clear H e5
                                  refine start_ (n := 20) (S := fun w' => (Instr.lookup 81 (.map (some gm)) (.int .i64 key) false).run Try.prog w' = .ok (.bool false) w') (ds := []) #[false, false, false, false, false, false, false, false, false, false, false, false, false, false, false, false, false, false, false, false] (by kernel_rfl) rfl rfl (by have h_ := (show MapAt wr.drew gm l from FM2.out).look key HK.out; rw [e5b] at h_; exact h_) (fun hHeld => ?_); refine with_tabW act_tab19 act_bits19 (fun HT_ HW_ => ?_)
                                  have FM3 := Aside0.mk (show MapAt wr.drew gm l from FM2.out)
                                  have FB3 := Aside0.mk (below_drew1 FB2.out)
                                  clear FM2 FB2
                                  generalize wr.drew = w9 at FM3 FB3 hHeld ⊢
                                  refine pure_ (i := 0) (N := some 43) (v := ?_) (a' := ?_) #[true, false, false, false, false, false, false, false, false, false, false, false, false, false, false, false, false, false, false, false] rfl rfl (any_of HT_.out (by kernel_rfl)) (fun _ _ _ h => h) (Or.inl ⟨by rfl, ?_⟩) ?_ ?_
                                  rotate_left
                                  · intro w'
                                    go_simp
                                    with_reducible rfl
                                  rotate_left
                                  · simp only [Act.put, List.setIfInBounds_toArray, List.set_cons_zero, List.set_cons_succ, i64_w, i32_w]
                                    rfl
                                  refine pure_ (i := 1) (N := some 44) (v := ?_) (a' := ?_) #[true, true, false, false, false, false, false, false, false, false, false, false, false, false, false, false, false, false, false, false] rfl rfl (any_of HT_.out (by kernel_rfl)) (fun _ _ _ h => h) (Or.inl ⟨by rfl, ?_⟩) ?_ ?_
                                  rotate_left
                                  · intro w'
                                    go_simp
                                    with_reducible rfl
                                  rotate_left
                                  · simp only [Act.put, List.setIfInBounds_toArray, List.set_cons_zero, List.set_cons_succ, i64_w, i32_w]
                                    rfl
                                  refine pure_ (i := 2) (N := some 45) (v := ?_) (a' := ?_) #[true, true, true, false, false, false, false, false, false, false, false, false, false, false, false, false, false, false, false, false] rfl rfl (any_of HT_.out (by kernel_rfl)) (fun _ _ _ h => h) (Or.inl ⟨by rfl, ?_⟩) ?_ ?_
                                  rotate_left
                                  · intro w'
                                    go_simp
                                    with_reducible rfl
                                  rotate_left
                                  · simp only [Act.put, List.setIfInBounds_toArray, List.set_cons_zero, List.set_cons_succ, i64_w, i32_w]
                                    rfl
                                  refine pure_ (i := 3) (N := some 46) (v := ?_) (a' := ?_) #[true, true, true, true, false, false, false, false, false, false, false, false, false, false, false, false, false, false, false, false] rfl rfl (any_of HT_.out (by kernel_rfl)) (fun _ _ _ h => h) (Or.inl ⟨by rfl, ?_⟩) ?_ ?_
                                  rotate_left
                                  · intro w'
                                    go_simp
                                    with_reducible rfl
                                  rotate_left
                                  · simp only [Act.put, List.setIfInBounds_toArray, List.set_cons_zero, List.set_cons_succ, i64_w, i32_w]
                                    rfl
                                  refine pure_ (i := 4) (N := some 47) (v := ?_) (a' := ?_) #[true, true, true, true, true, false, false, false, false, false, false, false, false, false, false, false, false, false, false, false] rfl rfl (any_of HT_.out (by kernel_rfl)) (fun _ _ _ h => h) (Or.inl ⟨by rfl, ?_⟩) ?_ ?_
                                  rotate_left
                                  · intro w'
                                    go_simp
                                    with_reducible rfl
                                  rotate_left
                                  · simp only [Act.put, List.setIfInBounds_toArray, List.set_cons_zero, List.set_cons_succ, i64_w, i32_w]
                                    rfl
                                  refine pure_ (i := 5) (N := some 48) (v := ?_) (a' := ?_) #[true, true, true, true, true, true, false, false, false, false, false, false, false, false, false, false, false, false, false, false] rfl rfl (any_of HT_.out (by kernel_rfl)) (fun _ _ _ h => h) (Or.inl ⟨by rfl, ?_⟩) ?_ ?_
                                  rotate_left
                                  · intro w'
                                    go_simp
                                    with_reducible rfl
                                  rotate_left
                                  · simp only [Act.put, List.setIfInBounds_toArray, List.set_cons_zero, List.set_cons_succ, i64_w, i32_w]
                                    rfl
                                  refine pure_ (i := 6) (N := some 49) (v := ?_) (a' := ?_) #[true, true, true, true, true, true, true, false, false, false, false, false, false, false, false, false, false, false, false, false] rfl rfl (any_of HT_.out (by kernel_rfl)) (fun _ _ _ h => h) (Or.inl ⟨by rfl, ?_⟩) ?_ ?_
                                  rotate_left
                                  · intro w'
                                    go_simp
                                    with_reducible rfl
                                  rotate_left
                                  · simp only [Act.put, List.setIfInBounds_toArray, List.set_cons_zero, List.set_cons_succ, i64_w, i32_w]
                                    rfl
                                  refine pure_ (i := 7) (N := some 50) (v := ?_) (a' := ?_) #[true, true, true, true, true, true, true, true, false, false, false, false, false, false, false, false, false, false, false, false] rfl rfl (any_of HT_.out (by kernel_rfl)) (fun _ _ _ h => h) (Or.inl ⟨by rfl, ?_⟩) ?_ ?_
                                  rotate_left
                                  · intro w'
                                    go_simp
                                    with_reducible rfl
                                  rotate_left
                                  · simp only [Act.put, List.setIfInBounds_toArray, List.set_cons_zero, List.set_cons_succ, i64_w, i32_w]
                                    rfl
                                  refine pure_ (i := 8) (N := some 51) (v := ?_) (a' := ?_) #[true, true, true, true, true, true, true, true, true, false, false, false, false, false, false, false, false, false, false, false] rfl rfl (any_of HT_.out (by kernel_rfl)) (fun _ _ _ h => h) (Or.inl ⟨by rfl, ?_⟩) ?_ ?_
                                  rotate_left
                                  · intro w'
                                    go_simp
                                    with_reducible rfl
                                  rotate_left
                                  · simp only [Act.put, List.setIfInBounds_toArray, List.set_cons_zero, List.set_cons_succ, i64_w, i32_w]
                                    rfl
                                  refine pure_ (i := 9) (N := some 52) (v := ?_) (a' := ?_) #[true, true, true, true, true, true, true, true, true, true, false, false, false, false, false, false, false, false, false, false] rfl rfl (any_of HT_.out (by kernel_rfl)) (fun _ _ _ h => h) (Or.inl ⟨by rfl, ?_⟩) ?_ ?_
                                  rotate_left
                                  · intro w'
                                    go_simp
                                    with_reducible rfl
                                  rotate_left
                                  · simp only [Act.put, List.setIfInBounds_toArray, List.set_cons_zero, List.set_cons_succ, i64_w, i32_w]
                                    rfl
                                  refine pure_ (i := 10) (N := some 53) (v := ?_) (a' := ?_) #[true, true, true, true, true, true, true, true, true, true, true, false, false, false, false, false, false, false, false, false] rfl rfl (any_of HT_.out (by kernel_rfl)) (fun _ _ _ h => h) (Or.inl ⟨by rfl, ?_⟩) ?_ ?_
                                  rotate_left
                                  · intro w'
                                    go_simp
                                    with_reducible rfl
                                  rotate_left
                                  · simp only [Act.put, List.setIfInBounds_toArray, List.set_cons_zero, List.set_cons_succ, i64_w, i32_w]
                                    rfl
                                  refine pure_ (i := 11) (N := some 54) (v := ?_) (a' := ?_) #[true, true, true, true, true, true, true, true, true, true, true, true, false, false, false, false, false, false, false, false] rfl rfl (any_of HT_.out (by kernel_rfl)) (fun _ _ _ h => h) (Or.inl ⟨by rfl, ?_⟩) ?_ ?_
                                  rotate_left
                                  · intro w'
                                    go_simp
                                    with_reducible rfl
                                  rotate_left
                                  · simp only [Act.put, List.setIfInBounds_toArray, List.set_cons_zero, List.set_cons_succ, i64_w, i32_w]
                                    rfl
                                  refine pure_ (i := 12) (N := some 55) (v := ?_) (a' := ?_) #[true, true, true, true, true, true, true, true, true, true, true, true, true, false, false, false, false, false, false, false] rfl rfl (any_of HT_.out (by kernel_rfl)) (fun _ _ _ h => h) (Or.inl ⟨by rfl, ?_⟩) ?_ ?_
                                  rotate_left
                                  · intro w'
                                    go_simp
                                    with_reducible rfl
                                  rotate_left
                                  · simp only [Act.put, List.setIfInBounds_toArray, List.set_cons_zero, List.set_cons_succ, i64_w, i32_w]
                                    rfl
                                  refine pure_ (i := 13) (N := some 56) (v := ?_) (a' := ?_) #[true, true, true, true, true, true, true, true, true, true, true, true, true, true, false, false, false, false, false, false] rfl rfl (any_of HT_.out (by kernel_rfl)) (fun _ _ _ h => h) (Or.inl ⟨by rfl, ?_⟩) ?_ ?_
                                  rotate_left
                                  · intro w'
                                    go_simp
                                    with_reducible rfl
                                  rotate_left
                                  · simp only [Act.put, List.setIfInBounds_toArray, List.set_cons_zero, List.set_cons_succ, i64_w, i32_w]
                                    rfl
                                  refine pure_ (i := 14) (N := some 57) (v := ?_) (a' := ?_) #[true, true, true, true, true, true, true, true, true, true, true, true, true, true, true, false, false, false, false, false] rfl rfl (any_of HT_.out (by kernel_rfl)) (fun _ _ _ h => h) (Or.inl ⟨by rfl, ?_⟩) ?_ ?_
                                  rotate_left
                                  · intro w'
                                    go_simp
                                    with_reducible rfl
                                  rotate_left
                                  · simp only [Act.put, List.setIfInBounds_toArray, List.set_cons_zero, List.set_cons_succ, i64_w, i32_w]
                                    rfl
                                  refine pure_ (i := 15) (N := some 58) (v := ?_) (a' := ?_) #[true, true, true, true, true, true, true, true, true, true, true, true, true, true, true, true, false, false, false, false] rfl rfl (any_of HT_.out (by kernel_rfl)) (fun _ _ _ h => h) (Or.inl ⟨by rfl, ?_⟩) ?_ ?_
                                  rotate_left
                                  · intro w'
                                    go_simp
                                    with_reducible rfl
                                  rotate_left
                                  · simp only [Act.put, List.setIfInBounds_toArray, List.set_cons_zero, List.set_cons_succ, i64_w, i32_w]
                                    rfl
                                  refine pure_ (i := 16) (N := some 59) (v := ?_) (a' := ?_) #[true, true, true, true, true, true, true, true, true, true, true, true, true, true, true, true, true, false, false, false] rfl rfl (any_of HT_.out (by kernel_rfl)) (fun _ _ _ h => h) (Or.inl ⟨by rfl, ?_⟩) ?_ ?_
                                  rotate_left
                                  · intro w'
                                    go_simp
                                    with_reducible rfl
                                  rotate_left
                                  · simp only [Act.put, List.setIfInBounds_toArray, List.set_cons_zero, List.set_cons_succ, i64_w, i32_w]
                                    rfl
                                  refine pure_ (i := 17) (N := some 60) (v := ?_) (a' := ?_) #[true, true, true, true, true, true, true, true, true, true, true, true, true, true, true, true, true, true, false, false] rfl rfl (any_of HT_.out (by kernel_rfl)) (fun _ _ _ h => h) (Or.inl ⟨by rfl, ?_⟩) ?_ ?_
                                  rotate_left
                                  · intro w'
                                    go_simp
                                    with_reducible rfl
                                  rotate_left
                                  · simp only [Act.put, List.setIfInBounds_toArray, List.set_cons_zero, List.set_cons_succ, i64_w, i32_w]
                                    rfl
                                  refine take_ (i := 18) (N := some 61) (v := ?_) (a' := ?_) #[true, true, true, true, true, true, true, true, true, true, true, true, true, true, true, true, true, true, true, false] rfl rfl (take_ofW HT_.out HW_.out (by kernel_rfl)) (fun _ _ _ h => h) (Or.inl ⟨by rfl, ?_⟩) hHeld ?_ ?_
                                  rotate_left
                                  · intro w' s0
                                    go_simp
                                    with_reducible rfl
                                  rotate_left
                                  · simp only [Act.put, List.setIfInBounds_toArray, List.set_cons_zero, List.set_cons_succ, i64_w, i32_w]
                                    rfl
                                  refine pure_ (i := 19) (N := some 62) (v := ?_) (a' := ?_) #[true, true, true, true, true, true, true, true, true, true, true, true, true, true, true, true, true, true, true, true] rfl rfl (any_of HT_.out (by kernel_rfl)) (fun _ _ _ h => h) (Or.inl ⟨by rfl, ?_⟩) ?_ ?_
                                  rotate_left
                                  · intro w'
                                    go_simp
                                    with_reducible rfl
                                  rotate_left
                                  · simp only [Act.put, List.setIfInBounds_toArray, List.set_cons_zero, List.set_cons_succ, i64_w, i32_w]
                                    rfl
                                  refine done_ (done_of HT_.out (by kernel_rfl)) ?_
                                  try go_wp2
                                  go_roundg k3
                                  case measure => omega
                                  case rel => exact ⟨q, wrap64 (t + 1), rfl, rfl, HN2, FM3, FB3⟩
                        · rw [if_neg e1] at H
                          obtain rfl := Option.some.inj H
                          have HN1 := HN.out
                          clear H HN
                          cases q with
                          | false =>
                            rw [if_neg (by decide)] at HN1
                            have HN2 := Aside0.mk HN1
                            clear HN1
                            go_wp2
                            go_roundg k2
                            case measure => omega
                            case rel => exact ⟨wi, wo, wrap64 (i + 1), rfl, rfl, rfl, HN2, FM2, FB2⟩
                          | true =>
                            rw [if_pos rfl] at HN1
                            by_cases e6 : Go.bits .and .i64 (shr .i64 b i) 1 = 1
                            · rw [if_pos e6, shl_pow] at HN1
                              have HN2 := Aside0.mk HN1
                              have e6b : (Go.bits .and .i64 (b / 2 ^ min (i : Int).toNat 64) 1 == 1) = true := beq_iff_eq.mpr e6
                              clear HN1 e6
                              go_wp2
                              go_roundg k2
                              case measure => omega
                              case rel => exact ⟨_, wo, wrap64 (i + 1), rfl, rfl, rfl, HN2, FM2, FB2⟩
                            · rw [if_neg e6, shl_pow] at HN1
                              have HN2 := Aside0.mk HN1
                              have e6b : (Go.bits .and .i64 (b / 2 ^ min (i : Int).toNat 64) 1 == 1) = false := beq_eq_false_iff_ne.mpr e6
                              clear HN1 e6
                              go_wp2
                              go_roundg k2
                              case measure => omega
                              case rel => exact ⟨wi, _, wrap64 (i + 1), rfl, rfl, rfl, HN2, FM2, FB2⟩
                · rw [if_neg d1] at H
                  obtain rfl := Option.some.inj H
                  clear H
                  go_wp2
                  go_ret3
                  exact ⟨rfl, FB.out⟩
end Go.Proofs.Ytkppdmlellmepaa
