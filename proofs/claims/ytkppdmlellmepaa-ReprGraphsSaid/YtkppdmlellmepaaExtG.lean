/-
  The closure 'find' of kinds.forest: it goes from a vertex to its root, in a list that it only reads.
  kinds.forest: are the edges of a set without a ring? Each selected edge joins two roots, or closes a ring.
  kinds.Graphic: the greatest sets of edges without a ring.
-/
import Derived.Test.YtkppdmlellmepaaPAx6
namespace Go.Proofs.Ytkppdmlellmepaa
open Go.RowKit Go.Proofs.YtkppdmlellmepaaW.PrintWords Go.Proofs.YtkppdmlellmepaaW.PrintLast Go.Proofs.YtkppdmlellmepaaW.PrintMore

/-- from a vertex to its root. -/
def find (root : List Int) : Nat → Int → Option Int
  | 0, _ => none
  | k + 1, v => if 0 ≤ v then (if v < (root.length : Int) then (if rd root v = v then some v else find root k (rd root v)) else none) else none

set_option maxHeartbeats 800000 in
theorem find_calls (k : Nat) (gb : Nat) (A : Option Addr) (c : Nat) (root : List Int) (v r : Int) (w : World)
    (hb : w.heap[gb]? = some (.cells #[.slice A root.length c] 31 (0, 0))) (hr : Kd.C (Kd.int .i64) w A root.length root) (h : find root k v = some r) :
    Calls Try.prog 63 #[.int .i64 v, .pointer (some ⟨gb, 0, none⟩)] w fun e w' => e = .returned (.int .i64 r) ∧ Drawn0 w w' := by
  have HR := Aside0.mk hr
  have BK := Aside0.mk hb
  clear hr hb
  have H' := Aside0.mk h
  clear h
  go_enter Try.func63, Try.ntmps63
  go_wp2
  go_loopg [0] k (fun kq v0 w' => ∃ (x : Int), v0 = .int .i64 x ∧ Aside0 (find root kq x = some r) ∧ Aside0 (kq ≤ k) ∧ Drawn0 w w')
  case atStart => exact ⟨v, rfl, H', ⟨Nat.le_refl _⟩, Drawn0.refl _⟩
  case round =>
    clear H'
    obtain ⟨x, rfl, HA, HK1, ⟨m1, rfl⟩⟩ := hrel
    cases gk with
    | zero => exact absurd HA.out (by simp [find])
    | succ k1 =>
      have H := HA.out
      clear HA
      simp only [find] at H
      by_cases c1 : 0 ≤ x
      · rw [if_pos c1] at H
        by_cases c2 : x < (root.length : Int)
        · rw [if_pos c2] at H
          obtain ⟨ad, e1, hx⟩ := Kd.at_int HR.out x c1 c2
          have hc0 : w.cell? ⟨gb, 0, none⟩ = some (.slice A root.length c) := (blk_cell BK.out 0).trans rfl
          cases e1
          replace c1 := eq_true c1
          replace c2 := eq_true c2
          by_cases c3 : rd root x = x
          · rw [if_pos c3] at H
            have c3b : (rd root x == x) = true := beq_iff_eq.mpr c3
            have c3n : (rd root x != x) = false := bne_eq_false_iff_eq.mpr c3
            clear c3
            obtain rfl := Option.some.inj H
            go_wp2
            go_ret
            exact ⟨rfl, by repeat (first | exact Drawn0.refl _ | apply Drawn0.step)⟩
          · rw [if_neg c3] at H
            have c3b : (rd root x == x) = false := beq_eq_false_iff_ne.mpr c3
            have c3n : (rd root x != x) = true := bne_iff_ne.mpr c3
            clear c3
            have H' := Aside0.mk H
            clear H
            go_wp2
            go_roundg k1
            case measure => have := HK1.out; omega
            case rel => exact ⟨rd root x, rfl, H', ⟨by have := HK1.out; omega⟩, by repeat (first | exact Drawn0.refl _ | apply Drawn0.step)⟩
        · rw [if_neg c2] at H
          exact absurd H (by simp)
      · rw [if_neg c1] at H
        exact absurd H (by simp)
end Go.Proofs.Ytkppdmlellmepaa
namespace Go.Proofs.Ytkppdmlellmepaa
open Go.RowKit Go.Proofs.YtkppdmlellmepaaW.PrintWords Go.Proofs.YtkppdmlellmepaaW.PrintLast Go.Proofs.YtkppdmlellmepaaW.PrintMore
open PA

/-- each vertex its own root, from vertex i on. -/
def fill : Nat → List Int → Int → Option (List Int)
  | 0, _, _ => none
  | k + 1, root, i => if i < (root.length : Int) then (if 0 ≤ i then fill k (root.set i.toNat i) (wrap64 (i + 1)) else none) else some root

/-- the edges of a set, from the i-th on. -/
def joins (E : List S93) (s : Int) : Nat → List Int → Int → Option Bool
  | 0, _, _ => none
  | k + 1, root, i => if i < (E.length : Int) then (if 0 ≤ i then (if Go.bits .and .i64 (shr .i64 s i) 1 = 0 then joins E s k root (wrap64 (i + 1)) else
      (find root k (rd_T93 E i).f0).bind fun a => (find root k (rd_T93 E i).f1).bind fun b =>
        if a = b then some false else if 0 ≤ a then (if a < (root.length : Int) then joins E s k (root.set a.toNat b) (wrap64 (i + 1)) else none) else none) else none) else some true

def forest (k : Nat) (n : Int) (E : List S93) (s : Int) : Option Bool :=
  if 0 ≤ n then (if n ≤ 64 then (fill k (List.replicate n.toNat 0) 0).bind fun root => joins E s k root 0 else none) else none

/-- what stands in memory while the loops run. -/
structure FInv (w : World) (gb g5 : Nat) (n : Int) (A : Option Addr) (c : Nat) (E : List S93) (Ao : Option Addr) (co m : Nat) (root : List Int) (W : World) : Prop where
  below : Below w.heap.size w W
  hgb : w.heap.size ≤ gb
  hg5 : w.heap.size ≤ g5
  ne : gb ≠ g5
  len : root.length = m
  b : W.heap[gb]? = some (.cells #[.int .i64 n, .slice A E.length c] 24 (0, 0))
  r : W.heap[g5]? = some (.cells #[.slice Ao m co] 31 (0, 0))
  row : Kd.R (Kd.int .i64) 3 W w.heap.size (fun _ => True) (.slice Ao m co) root

theorem FInv.step {w : World} {gb g5 : Nat} {n : Int} {A : Option Addr} {c : Nat} {E : List S93} {Ao : Option Addr} {co m : Nat} {root : List Int} {W W1 : World}
    (h : FInv w gb g5 n A c E Ao co m root W) (hb : Below W.heap.size W W1) : FInv w gb g5 n A c E Ao co m root W1 :=
  ⟨below_step h.below hb, h.hgb, h.hg5, h.ne, h.len, blk_below h.b hb, blk_below h.r hb, Kd.R_below h.row hb⟩

theorem FInv.set {w : World} {gb g5 : Nat} {n : Int} {A : Option Addr} {c : Nat} {E : List S93} {g co m : Nat} {root : List Int} {W : World}
    (h : FInv w gb g5 n A c E (some ⟨g, 0, none⟩) co m root W) (i v : Int) : FInv w gb g5 n A c E (some ⟨g, 0, none⟩) co m (root.set i.toNat v) (W.setCell ⟨g, i.toNat, none⟩ (.int .i64 v)) := by
  have h1 := Kd.R_putn h.row i v
  have hne1 : some gb ≠ (Value.slice (some ⟨g, 0, none⟩) m co).ownBlock := Kd.R_ne h.row h.b (by decide)
  have hne2 : some g5 ≠ (Value.slice (some ⟨g, 0, none⟩) m co).ownBlock := Kd.R_ne h.row h.r (by decide)
  have hg : w.heap.size ≤ g := Kd.R_base h.row g (by simp [Value.ownBlock])
  exact ⟨below_set h.below hg, h.hgb, h.hg5, h.ne, by rw [List.length_set]; exact h.len, blk_far h.b (fun e => hne1 (by simp [Value.ownBlock, e])) _,
    blk_far h.r (fun e => hne2 (by simp [Value.ownBlock, e])) _, h1⟩

/-- a store into a block of another kind. -/
theorem FInv.other {w : World} {gb g5 : Nat} {n : Int} {A : Option Addr} {c : Nat} {E : List S93} {Ao : Option Addr} {co m : Nat} {root : List Int} {W : World} {g9 : Nat} {cs : Array Value}
    (h : FInv w gb g5 n A c E Ao co m root W) (hg : w.heap.size ≤ g9) (h9 : W.heap[g9]? = some (.cells cs 93 (0, 0))) (j : Nat) (v : Value) :
    FInv w gb g5 n A c E Ao co m root (W.setCell ⟨g9, j, none⟩ v) :=
  have n1 : gb ≠ g9 := fun e => by have := h.b; rw [e, h9] at this; simp at this
  have n2 : g5 ≠ g9 := fun e => by have := h.r; rw [e, h9] at this; simp at this
  ⟨below_set h.below hg, h.hgb, h.hg5, h.ne, h.len, blk_far h.b n1 _, blk_far h.r n2 _, Kd.R_set h.row h9 (by decide) j v⟩

theorem FInv.start {w w1 w2 w3 : World} {gb g5 : Nat} {n : Int} {A : Option Addr} {c : Nat} {E : List S93} {Ao : Option Addr} {co m : Nat} {root : List Int}
    (h1 : Below w.heap.size w w1) (hg : gb = w.heap.size) (hb : w1.heap[gb]? = some (.cells #[.int .i64 n, .slice A E.length c] 24 (0, 0)))
    (h2 : Below w1.heap.size w1 w2) (hr : Kd.R (Kd.int .i64) 3 w2 w1.heap.size (fun _ => True) (.slice Ao m co) root)
    (h3 : Below w2.heap.size w2 w3) (hg5 : g5 = w2.heap.size) (hb5 : w3.heap[g5]? = some (.cells #[.slice none 0 0] 31 (0, 0))) :
    FInv w gb g5 n A c E Ao co m root (w3.setCell ⟨g5, 0, none⟩ (.slice Ao m co)) := by
  have hs1 := h1.size
  have hs2 := h2.size
  have hlt := blk_lt hb
  have hm := (Kd.R_reads' hr).1
  have b3 : w3.heap[gb]? = some (.cells #[.int .i64 n, .slice A E.length c] 24 (0, 0)) := blk_below (blk_below hb h2) h3
  refine ⟨below_set (below_step (below_step h1 h2) h3) (by omega), by omega, by omega, by omega, hm.symm, blk_far b3 (by simp; omega) _, blk_put hb5 0 _ rfl, ?_⟩
  refine Kd.R_mono (Kd.R_far (Kd.R_types (Kd.R_below (Kd.R_lower hr hs1) h3) hb5 (by decide)) (fun k hk => hk.2) _) (fun _ _ => trivial)

theorem FInv.cell {w : World} {gb g5 : Nat} {n : Int} {A : Option Addr} {c : Nat} {E : List S93} {Ao : Option Addr} {co m : Nat} {root : List Int} {W : World}
    (h : FInv w gb g5 n A c E Ao co m root W) {x : Int} (h0 : 0 ≤ x) (h1 : x < (m : Int)) :
    ∃ g, Ao = some ⟨g, 0, none⟩ ∧ W.cell? ⟨g, x.toNat, none⟩ = some (.int .i64 (rd root x)) ∧ W.frozen? ⟨g, x.toNat, none⟩ = false := by
  have hl := h.len
  obtain ⟨g, cap, hv, _, _, _⟩ := Kd.R_form h.row (by omega)
  injection hv with h2 h3 h4
  subst h2
  have := Kd.R_celln 0 h.row x h0 h1
  exact ⟨g, rfl, this.1, this.2⟩

theorem find_q {w : World} {gb g5 : Nat} {n : Int} {A : Option Addr} {c : Nat} {E : List S93} {Ao : Option Addr} {co m : Nat} {root : List Int} {W : World} {k : Nat} {v r : Int}
    (h : find root k v = some r) (F : FInv w gb g5 n A c E Ao co m root W) (q : Nat) :
    Calls Try.prog 63 #[.int .i64 v, .pointer (some ⟨g5, 0, none⟩)] (W.drewN q) fun e w' => e = .returned (.int .i64 r) ∧ ∃ m, w' = (W.drewN q).drewN m := by
  have F1 := F.step (pw_below_drewN (Below.refl _ _) q)
  have hl := F1.len
  subst hl
  exact (find_calls k g5 Ao co root v r _ F1.r (Kd.R_reads' F1.row).2.2 h).mono fun e w' ⟨he, hd⟩ => ⟨he, hd.out⟩

set_option maxRecDepth 100000 in
set_option maxHeartbeats 2000000 in
theorem forest_calls (k : Nat) (n : Int) (A : Option Addr) (c : Nat) (E : List S93) (s : Int) (r : Bool) (w : World)
    (hr : Kd.C k93 w A E.length E) (hc : E.length ≤ c) (h : forest k n E s = some r) :
    Calls Try.prog 31 #[.agg #[.int .i64 n, .slice A E.length c], .int .i64 s] w fun e w' => e = .returned (.bool r) ∧ Below w.heap.size w w' := by
  have HR := Aside0.mk hr
  have HC := Aside0.mk hc
  have HB := Aside0.mk (Below.refl w.heap.size w)
  clear hr hc
  unfold forest at h
  by_cases c1 : 0 ≤ n
  · rw [if_pos c1] at h
    by_cases c2 : n ≤ 64
    · rw [if_pos c2] at h
      obtain ⟨m, rfl⟩ := Int.eq_ofNat_of_zero_le c1
      obtain ⟨root0, G1, G2⟩ := Option.bind_eq_some_iff.mp h
      have H1 := Aside0.mk G1
      have H2 := Aside0.mk G2
      clear h G1 G2
      have c1b := Aside0.mk c1
      have c2b := Aside0.mk c2
      clear c1 c2
      go_enter Try.func31, Try.ntmps31
      go_wp2_with (first
        | ((with_reducible refine gate_dst (N := 2) rfl ?_); refine box_event ?hg (N := 2) ?hd (cs := #[.int .i64 (m : Int), .slice A E.length c]) (t := 24) ?hr ?_; (case hd => rfl); (case hg => rfl); (case hr => first | (go_simp; done) | (go_simp; rfl)); intro gb hg w1 hbox hb; have HBK := Aside0.mk hbox; have HG := Aside0.mk hg; have HW1 := Aside0.mk hb; have hcz0 : w1.cell? ⟨gb, 0, none⟩ = some (.int .i64 (m : Int)) := (blk_cell HBK.out 0).trans rfl; clear hbox hg hb)
        | ((with_reducible refine gate_dst (N := 14) rfl ?_); refine Kd.R_make (Kd.int .i64) _ 3 rfl (N := 14) rfl 31 _ _ rfl (m : Int) rfl rfl Try.underlying31 (.int .i64 0) 8 info3 rfl (by decide) (by omega) 0 (ok := fun _ => True) (okp := fun _ => True) rfl (fun _ hk => hk) trivial c1b.out (by have := c2b.out; omega) (Below.refl _ _) (Nat.le_refl _) ?_; intro v14 w2 ho hb2 hg2 hnew2; have HO := Aside0.mk ho; have HW2 := Aside0.mk hb2; clear ho hb2 hg2 hnew2; obtain ⟨Ao, co, eo⟩ := Kd.R_slice HO.out; rw [List.length_replicate, Int.toNat_natCast] at eo; subst eo)
        | ((with_reducible refine gate_dst (N := 5) rfl ?_); refine box_event ?hg (N := 5) ?hd (cs := #[.slice none 0 0]) (t := 31) ?hr ?_; (case hd => rfl); (case hg => rfl); (case hr => first | (go_simp; done) | (go_simp; rfl)); intro g5 hg5 w3 hbox3 hb3; have HBK5 := Aside0.mk hbox3; have HG5 := Aside0.mk hg5; have HW3 := Aside0.mk hb3; have hcz5 : w3.cell? ⟨g5, 0, none⟩ = some (.slice none 0 0) := (blk_cell HBK5.out 0).trans rfl; have hfz5 := blk_frozen HBK5.out 0; clear hbox3 hg5 hb3))
      have F0 := FInv.start HW1.out HG.out HBK.out HW2.out HO.out HW3.out HG5.out HBK5.out
      generalize w3.setCell ⟨g5, 0, none⟩ (.slice Ao m co) = w4 at F0 ⊢
      have FI := Aside0.mk F0
      clear F0 HO HW1 HW2 HW3 HBK HBK5 HG HG5 hcz0 hcz5 hfz5
      go_loopg [17] k (fun kq v17 w' => ∃ (root : List Int) (x : Int), v17 = .int .i64 x ∧ Aside0 (fill kq root x = some root0) ∧ Aside0 (FInv w gb g5 m A c E Ao co m root w'))
      case atStart => exact ⟨_, 0, rfl, H1, FI⟩
      case round =>
        clear H1 FI
        obtain ⟨root, x, rfl, HA, FI⟩ := hrel
        cases gk with
        | zero => exact absurd HA.out (by simp [fill])
        | succ k1 =>
          have H := HA.out
          clear HA
          simp only [fill] at H
          have hl := FI.out.len
          rw [hl] at H
          clear hl
          have hc5 : wr.cell? ⟨g5, 0, none⟩ = some (.slice Ao m co) := (blk_cell FI.out.r 0).trans rfl
          by_cases d1 : x < (m : Int)
          · rw [if_pos d1] at H
            by_cases d2 : 0 ≤ x
            · rw [if_pos d2] at H
              have H' := Aside0.mk H
              clear H
              obtain ⟨g, rfl, hcx, hfx⟩ := FI.out.cell d2 d1
              go_wp2
              go_roundg k1
              case measure => omega
              case rel => exact ⟨_, wrap64 (x + 1), by first | rfl | (simp; done), H', ⟨FI.out.set x x⟩⟩
            · rw [if_neg d2] at H
              exact absurd H (by simp)
          · rw [if_neg d1] at H
            obtain rfl := Option.some.inj H
            clear H
            have hcb1 : wr.cell? ⟨gb, 1, none⟩ = some (.slice A E.length c) := (blk_cell FI.out.b 1).trans rfl
            go_wp2
            go_loopg [29] k (fun kq v29 w' => ∃ (root' : List Int) (x' : Int), v29 = .int .i64 x' ∧ Aside0 (joins E s kq root' x' = some r) ∧ Aside0 (FInv w gb g5 m A c E Ao co m root' w'))
            case atStart => exact ⟨_, 0, rfl, H2, FI⟩
            case round =>
              clear H2 FI hc5 hcb1 d1
              obtain ⟨root', x', rfl, HA, FI⟩ := hrel
              cases gk with
              | zero => exact absurd HA.out (by simp [joins])
              | succ k2 =>
                have H := HA.out
                clear HA
                simp only [joins] at H
                by_cases e1 : x' < (E.length : Int)
                · rw [if_pos e1] at H
                  by_cases e2 : 0 ≤ x'
                  · rw [if_pos e2] at H
                    have hcE := Kd.C_below HR.out FI.out.below
                    obtain ⟨ad, eA, hx0, hx1⟩ := at_T93 hcE x' e2 e1
                    cases eA
                    have hcb1 : wr.cell? ⟨gb, 1, none⟩ = some (.slice (some ad) E.length c) := (blk_cell FI.out.b 1).trans rfl
                    by_cases e3 : Go.bits .and .i64 (shr .i64 s x') 1 = 0
                    · rw [if_pos e3] at H
                      have e3b : ((Go.bits .and .i64 (s / 2 ^ min x'.toNat 64) 1) == 0) = true := beq_iff_eq.2 e3
                      have H' := Aside0.mk H
                      clear H e3
                      go_wp2_with (first
                        | ((with_reducible refine gate_dst (N := 9) rfl ?_); refine box_event ?hg (N := 9) ?hd (cs := #[.int .i64 0, .int .i64 0]) (t := 93) ?hr ?_; (case hd => rfl); (case hg => rfl); (case hr => first | (go_simp; done) | (go_simp; rfl)); intro g9 hg9 w5 hbox9 hb9; have HBK9 := Aside0.mk hbox9; have HG9 := Aside0.mk hg9; have HW5 := Aside0.mk hb9; have hcz9_0 : w5.cell? ⟨g9, 0, none⟩ = some (.int .i64 0) := (blk_cell HBK9.out 0).trans rfl; have hcz9_1 : w5.cell? ⟨g9, 1, none⟩ = some (.int .i64 0) := (blk_cell HBK9.out 1).trans rfl; have hfz9_0 := blk_frozen HBK9.out 0; have hfz9_1 := blk_frozen HBK9.out 1; clear hbox9 hg9 hb9))
                      have FI9 := Aside0.mk (((FI.out.step HW5.out).other (by have := FI.out.below.size; have := HG9.out; omega) HBK9.out 0 (.int .i64 (rd_T93 E x').f0)).other (by have := FI.out.below.size; have := HG9.out; omega) (blk_put HBK9.out 0 _ rfl) 1 (.int .i64 (rd_T93 E x').f1))
                      go_roundg k2
                      case measure => omega
                      case rel => exact ⟨_, wrap64 (x' + 1), by first | rfl | (simp; done), H', FI9⟩
                    · rw [if_neg e3] at H
                      have e3b : ((Go.bits .and .i64 (s / 2 ^ min x'.toNat 64) 1) == 0) = false := beq_eq_false_iff_ne.2 e3
                      clear e3
                      obtain ⟨a, A1, H⟩ := Option.bind_eq_some_iff.mp H
                      obtain ⟨b, A2, H⟩ := Option.bind_eq_some_iff.mp H
                      have HA1 := Aside0.mk A1
                      have HA2 := Aside0.mk A2
                      have HH := Aside0.mk H
                      clear A1 A2 H
                      go_wp2_with (first
                        | ((with_reducible refine gate_dst (N := 9) rfl ?_); refine box_event ?hg (N := 9) ?hd (cs := #[.int .i64 0, .int .i64 0]) (t := 93) ?hr ?_; (case hd => rfl); (case hg => rfl); (case hr => first | (go_simp; done) | (go_simp; rfl)); intro g9 hg9 w5 hbox9 hb9; have HBK9 := Aside0.mk hbox9; have HG9 := Aside0.mk hg9; have HW5 := Aside0.mk hb9; have hcz9_0 : w5.cell? ⟨g9, 0, none⟩ = some (.int .i64 0) := (blk_cell HBK9.out 0).trans rfl; have hcz9_1 : w5.cell? ⟨g9, 1, none⟩ = some (.int .i64 0) := (blk_cell HBK9.out 1).trans rfl; have hfz9_0 := blk_frozen HBK9.out 0; have hfz9_1 := blk_frozen HBK9.out 1; clear hbox9 hg9 hb9))
                      have FI9 := Aside0.mk (((FI.out.step HW5.out).other (by have := FI.out.below.size; have := HG9.out; omega) HBK9.out 0 (.int .i64 (rd_T93 E x').f0)).other (by have := FI.out.below.size; have := HG9.out; omega) (blk_put HBK9.out 0 _ rfl) 1 (.int .i64 (rd_T93 E x').f1))
                      have hc9_0 : ((w5.setCell ⟨g9, 0, none⟩ (.int .i64 (rd_T93 E x').f0)).setCell ⟨g9, 1, none⟩ (.int .i64 (rd_T93 E x').f1)).cell? ⟨g9, 0, none⟩ = some (.int .i64 (rd_T93 E x').f0) := (blk_cell (blk_put (blk_put HBK9.out 0 _ rfl) 1 _ rfl) 0).trans rfl
                      have hc9_1 : ((w5.setCell ⟨g9, 0, none⟩ (.int .i64 (rd_T93 E x').f0)).setCell ⟨g9, 1, none⟩ (.int .i64 (rd_T93 E x').f1)).cell? ⟨g9, 1, none⟩ = some (.int .i64 (rd_T93 E x').f1) := (blk_cell (blk_put (blk_put HBK9.out 0 _ rfl) 1 _ rfl) 1).trans rfl
                      generalize ((w5.setCell ⟨g9, 0, none⟩ (.int .i64 (rd_T93 E x').f0)).setCell ⟨g9, 1, none⟩ (.int .i64 (rd_T93 E x').f1)) = W9 at FI9 hc9_0 hc9_1 ⊢
                      clear HBK9 HG9 HW5 hcz9_0 hcz9_1 hfz9_0 hfz9_1 hx0 hx1 hcb1
                      have Q1 := Aside0.mk (fun n => find_q HA1.out FI9.out n)
                      have Q2 := Aside0.mk (fun n => find_q HA2.out FI9.out n)
                      go_quiet ((go_at_call 63; first | (with_reducible exact Calls.quiet_of (Q1.out _)) | (with_reducible exact Calls.quiet_of (Q2.out _))))
                      have FI10 := Aside0.mk (FI9.out.step (pw_below_drewN (Below.refl _ _) nq))
                      clear Q1 Q2 HA1 HA2
                      by_cases e4 : a = b
                      · have H := HH.out
                        rw [if_pos e4] at H
                        obtain rfl := Option.some.inj H
                        have e4b : (a == b) = true := beq_iff_eq.2 e4
                        clear H HH e4
                        go_wp2
                        go_ret
                        exact ⟨rfl, FI10.out.below⟩
                      · have H := HH.out
                        rw [if_neg e4] at H
                        have e4b : (a == b) = false := beq_eq_false_iff_ne.2 e4
                        clear HH e4
                        have hl := FI10.out.len
                        rw [hl] at H
                        clear hl
                        by_cases e5 : 0 ≤ a
                        · rw [if_pos e5] at H
                          by_cases e6 : a < (m : Int)
                          · rw [if_pos e6] at H
                            have H' := Aside0.mk H
                            clear H hc9_0 hc9_1
                            obtain ⟨g, rfl, hcx, hfx⟩ := FI10.out.cell e5 e6
                            have hc5 := (blk_cell FI10.out.r 0).trans rfl
                            have FI11 := Aside0.mk (FI10.out.set a b)
                            generalize W9.drewN nq = W10 at FI10 FI11 hcx hfx hc5 ⊢
                            go_wp2
                            go_roundg k2
                            case measure => omega
                            case rel => exact ⟨_, wrap64 (x' + 1), by first | rfl | (simp; done), H', FI11⟩
                          · rw [if_neg e6] at H
                            exact absurd H (by simp)
                        · rw [if_neg e5] at H
                          exact absurd H (by simp)
                  · rw [if_neg e2] at H
                    exact absurd H (by simp)
                · rw [if_neg e1] at H
                  obtain rfl := Option.some.inj H
                  go_wp2
                  go_ret
                  exact ⟨rfl, FI.out.below⟩
    · rw [if_neg c2] at h
      exact absurd h (by simp)
  · rw [if_neg c1] at h
    exact absurd h (by simp)
end Go.Proofs.Ytkppdmlellmepaa
namespace Go.Proofs.Ytkppdmlellmepaa
open Go.RowKit Go.Proofs.YtkppdmlellmepaaW.PrintWords Go.Proofs.YtkppdmlellmepaaW.PrintLast Go.Proofs.YtkppdmlellmepaaW.PrintMore
open PA

/-- the greatest of the sets from s on that are independent. -/
def great (ind : Int → Option Bool) : Nat → Int → List Int → Int → Int → Option (List Int)
  | 0, _, _, _, _ => none
  | k + 1, most, l, t, s => if s < t then ((kinds_size.f s).bind fun z => if z < most then great ind k most l t (wrap64 (s + 1)) else
      ((ind s).bind fun b => if b = true then (if most < z then great ind k z [s] t (wrap64 (s + 1)) else
        (if l.length < 17592186044416 then great ind k most (l ++ [s]) t (wrap64 (s + 1)) else none)) else great ind k most l t (wrap64 (s + 1)))) else some l

set_option maxHeartbeats 800000 in
theorem graphic1_calls (k : Nat) (gb : Nat) (n : Int) (A : Option Addr) (c : Nat) (E : List S93) (s : Int) (r : Bool) (w : World)
    (hb : w.heap[gb]? = some (.cells #[.int .i64 n, .slice A E.length c] 24 (0, 0))) (hr : Kd.C k93 w A E.length E) (hc : E.length ≤ c) (h : forest k n E s = some r) :
    Calls Try.prog 30 #[.int .i64 s, .pointer (some ⟨gb, 0, none⟩)] w fun e w' => e = .returned (.bool r) ∧ Below w.heap.size w w' := by
  have HR := Aside0.mk hr
  have HC := Aside0.mk hc
  have HF := Aside0.mk h
  have hc0 : w.cell? ⟨gb, 0, none⟩ = some (.int .i64 n) := (blk_cell hb 0).trans rfl
  have hc1 : w.cell? ⟨gb, 1, none⟩ = some (.slice A E.length c) := (blk_cell hb 1).trans rfl
  clear hr hc h hb
  go_enter Try.func30, Try.ntmps30
  go_wp2_with (go_at_call 31; (with_reducible refine (forest_calls k n A c E s r _ HR.out HC.out HF.out).mono ?_); rintro e w' ⟨rfl, hb⟩)
  go_ret
  exact ⟨rfl, hb⟩

/-- what stands in memory while the sets are gone through. -/
structure GInv (w : World) (g4 g5 : Nat) (N : Int) (v : Value) (l : List Int) (W : World) : Prop where
  below : Below w.heap.size w W
  h4 : w.heap.size ≤ g4
  h5 : w.heap.size ≤ g5
  ne : g4 ≠ g5
  b4 : W.heap[g4]? = some (.cells #[.int .i64 0, .slice none 0 0] 33 (0, 0))
  b5 : W.heap[g5]? = some (.cells #[.int .i64 N, v] 33 (0, 0))
  row : Kd.R (Kd.int .i64) 3 W w.heap.size (fun _ => True) v l

theorem GInv.step {w : World} {g4 g5 : Nat} {N : Int} {v : Value} {l : List Int} {W W1 : World} (h : GInv w g4 g5 N v l W) (hb : Below W.heap.size W W1) : GInv w g4 g5 N v l W1 :=
  ⟨below_step h.below hb, h.h4, h.h5, h.ne, blk_below h.b4 hb, blk_below h.b5 hb, Kd.R_below h.row hb⟩

/-- another row is laid into the variable. -/
theorem GInv.put {w : World} {g4 g5 : Nat} {N : Int} {v v' : Value} {l l' : List Int} {W : World} (h : GInv w g4 g5 N v l W) (hr : Kd.R (Kd.int .i64) 3 W w.heap.size (fun _ => True) v' l') :
    GInv w g4 g5 N v' l' (W.setCell ⟨g5, 1, none⟩ v') :=
  ⟨below_set h.below h.h5, h.h4, h.h5, h.ne, blk_far h.b4 h.ne _, blk_put h.b5 1 _ rfl, Kd.R_set hr h.b5 (by decide) 1 v'⟩

/-- a row that has grown is laid into the variable. -/
theorem GInv.app {w : World} {g4 g5 : Nat} {N : Int} {v v1 : Value} {l l1 : List Int} {W W1 : World} (h : GInv w g4 g5 N v l W) (hb : Below w.heap.size w W1) (hg : W.grownBy W1 v.ownBlock)
    (hr : Kd.R (Kd.int .i64) 3 W1 w.heap.size (fun _ => True) v1 l1) : GInv w g4 g5 N v1 l1 (W1.setCell ⟨g5, 1, none⟩ v1) :=
  have b4 := blk_grown h.b4 hg (Kd.R_ne h.row h.b4 (by decide))
  have b5 := blk_grown h.b5 hg (Kd.R_ne h.row h.b5 (by decide))
  ⟨below_set hb h.h5, h.h4, h.h5, h.ne, blk_far b4 h.ne _, blk_put b5 1 _ rfl, Kd.R_set hr b5 (by decide) 1 v1⟩

set_option maxRecDepth 100000 in
set_option maxHeartbeats 2000000 in
theorem greatest_calls (k : Nat) (kf : Nat) (gb : Nat) (n : Int) (A : Option Addr) (c : Nat) (E : List S93) (N : Int) (r : List Int) (w : World) (hN : 0 ≤ N)
    (hb : w.heap[gb]? = some (.cells #[.int .i64 n, .slice A E.length c] 24 (0, 0))) (hr : Kd.C k93 w A E.length E) (hc : E.length ≤ c)
    (h : great (forest kf n E) k (-1) [] (shl .i64 1 N) 0 = some r) :
    Calls Try.prog 29 #[.int .i64 N, .func (.func 30) #[] #[.pointer (some ⟨gb, 0, none⟩)]] w fun e w' => ∃ v : Value, e = .returned (.agg #[.int .i64 N, v]) ∧ Kd.R (Kd.int .i64) 3 w' w.heap.size (fun _ => True) v r ∧ Below w.heap.size w w' := by
  have HR := Aside0.mk hr
  have HC := Aside0.mk hc
  have BK := Aside0.mk hb
  have HB := Aside0.mk (Below.refl w.heap.size w)
  obtain ⟨t, ht⟩ : ∃ t, shl .i64 1 N = t := ⟨_, rfl⟩
  rw [ht] at h
  have ht_ : (IntKind.i64.wrap (1 * 2 ^ min N.toNat 64)) = t := ht
  have htu : (IntKind.i64.wrap (2 ^ min N.toNat 64)) = t := by have h_ := ht_; rw [Int.one_mul] at h_; exact h_
  have hty : (wrap64 (1 * 2 ^ min N.toNat 64)) = t := (i64_w _).symm.trans ht_
  have H' := Aside0.mk h
  clear hr hc hb h
  go_enter Try.func29, Try.ntmps29
  go_wp2_with (first
    | ((with_reducible refine gate_dst (N := 4) rfl ?_); refine box_event ?hg (N := 4) ?hd (cs := #[.int .i64 0, .slice none 0 0]) (t := 33) ?hr ?_; (case hd => rfl); (case hg => rfl); (case hr => first | (go_simp; done) | (go_simp; rfl)); intro g4 hg4 w1 hbox1 hb1; have B4 := Aside0.mk hbox1; have G4 := Aside0.mk hg4; have HW1 := Aside0.mk hb1; clear hbox1 hg4 hb1)
    | ((with_reducible refine gate_dst (N := 5) rfl ?_); refine box_event ?hg (N := 5) ?hd (cs := #[.int .i64 0, .slice none 0 0]) (t := 33) ?hr ?_; (case hd => rfl); (case hg => rfl); (case hr => first | (go_simp; done) | (go_simp; rfl)); intro g5 hg5 w2 hbox2 hb2; have B5 := Aside0.mk hbox2; have G5 := Aside0.mk hg5; have HW2 := Aside0.mk hb2; have hcz0 : w2.cell? ⟨g5, 0, none⟩ = some (.int .i64 0) := (blk_cell B5.out 0).trans rfl; have hcz1 : w2.cell? ⟨g5, 1, none⟩ = some (.slice none 0 0) := (blk_cell B5.out 1).trans rfl; have hfz0 := blk_frozen B5.out 0; have hfz1 := blk_frozen B5.out 1; clear hbox2 hg5 hb2))
  have G0 : GInv w g4 g5 N (.slice none 0 0) [] ((w2.setCell ⟨g5, 0, none⟩ (.int .i64 N)).setCell ⟨g5, 1, none⟩ (.slice none 0 0)) := by
    have hs1 := HW1.out.size
    have hlt := blk_lt B4.out
    have e4 := G4.out
    have e5 := G5.out
    have n45 : g4 ≠ g5 := by omega
    exact ⟨below_set (below_set (below_step HW1.out HW2.out) (by omega)) (by omega), by omega, by omega, n45, blk_far (blk_far (blk_below B4.out HW2.out) n45 _) n45 _, blk_put (blk_put B5.out 0 _ rfl) 1 _ rfl, Kd.R_nil _ _ _ _ _⟩
  generalize ((w2.setCell ⟨g5, 0, none⟩ (.int .i64 N)).setCell ⟨g5, 1, none⟩ (.slice none 0 0)) = w3 at G0 ⊢
  have GI := Aside0.mk G0
  clear G0 HW1 HW2 B4 B5 G4 G5 hcz0 hcz1 hfz0 hfz1
  clear ht ht_ htu hty
  go_loopg [6, 12] k (fun kq v6 v12 w' => ∃ (most s : Int) (v : Value) (l : List Int), v6 = .int .i64 most ∧ v12 = .int .i64 s ∧ Aside0 (great (forest kf n E) kq most l t s = some r) ∧ Aside0 (GInv w g4 g5 N v l w'))
  case atStart => exact ⟨-1, 0, _, _, rfl, rfl, H', GI⟩
  case round =>
    clear H' GI
    obtain ⟨most, s, v, l, rfl, rfl, HA, GI⟩ := hrel
    cases gk with
    | zero => exact absurd HA.out (by simp [great])
    | succ k1 =>
      have H := HA.out
      clear HA
      simp only [great] at H
      have hcz0 : wr.cell? ⟨g5, 0, none⟩ = some (.int .i64 N) := (blk_cell GI.out.b5 0).trans rfl
      have hcz1 : wr.cell? ⟨g5, 1, none⟩ = some v := (blk_cell GI.out.b5 1).trans rfl
      have hfz1 := blk_frozen GI.out.b5 1
      by_cases c1 : s < t
      · rw [if_pos c1] at H
        obtain ⟨z, A1, H⟩ := Option.bind_eq_some_iff.mp H
        have HZ := Aside0.mk A1
        clear A1
        by_cases c2 : z < most
        · rw [if_pos c2] at H
          have H' := Aside0.mk H
          clear H
          go_wp2_with (go_at_call 52; (with_reducible refine (kinds_size.calls s z _ HZ.out).mono ?_); rintro e w' ⟨rfl, ⟨nd, rfl⟩⟩)
          go_roundg k1
          case measure => omega
          case rel => exact ⟨most, wrap64 (s + 1), v, l, rfl, by first | rfl | (simp; done), H', ⟨GI.out.step (pw_below_drewN (Below.refl _ _) _)⟩⟩
        · rw [if_neg c2] at H
          obtain ⟨b, A2, H⟩ := Option.bind_eq_some_iff.mp H
          have HF := Aside0.mk A2
          clear A2
          cases b with
          | false =>
            rw [if_neg (by decide)] at H
            have H' := Aside0.mk H
            clear H
            go_wp2_with (first
              | (go_at_call 52; (with_reducible refine (kinds_size.calls s z _ HZ.out).mono ?_); rintro e w' ⟨rfl, hd⟩; have GI1 := Aside0.mk (GI.out.step hd.below); clear hd)
              | (go_at_call 30; (with_reducible refine (graphic1_calls kf gb n A c E s false _ (blk_below BK.out GI1.out.below) (Kd.C_below HR.out GI1.out.below) HC.out HF.out).mono ?_); rintro e w' ⟨rfl, hb⟩; have GI2 := Aside0.mk (GI1.out.step hb); clear hb))
            go_roundg k1
            case measure => omega
            case rel => exact ⟨most, wrap64 (s + 1), v, l, rfl, by first | rfl | (simp; done), H', GI2⟩
          | true =>
            rw [if_pos rfl] at H
            by_cases c3 : most < z
            · rw [if_pos c3] at H
              have H' := Aside0.mk H
              clear H
              go_upto_region 9 with (first
                | (go_at_call 52; (with_reducible refine (kinds_size.calls s z _ HZ.out).mono ?_); rintro e w' ⟨rfl, hd⟩; have GIn := Aside0.mk (GI.out.step hd.below); clear GI hcz0 hcz1 hfz1; have GI := GIn; clear GIn; have hcz0 : w'.cell? ⟨g5, 0, none⟩ = some (.int .i64 N) := (blk_cell GI.out.b5 0).trans rfl; have hcz1 : w'.cell? ⟨g5, 1, none⟩ = some v := (blk_cell GI.out.b5 1).trans rfl; have hfz1 := blk_frozen GI.out.b5 1; clear hd)
                | (go_at_call 30; (with_reducible refine (graphic1_calls kf gb n A c E s true _ (blk_below BK.out GI.out.below) (Kd.C_below HR.out GI.out.below) HC.out HF.out).mono ?_); rintro e w' ⟨rfl, hb⟩; have GIn := Aside0.mk (GI.out.step hb); clear GI hcz0 hcz1 hfz1; have GI := GIn; clear GIn; have hcz0 : w'.cell? ⟨g5, 0, none⟩ = some (.int .i64 N) := (blk_cell GI.out.b5 0).trans rfl; have hcz1 : w'.cell? ⟨g5, 1, none⟩ = some v := (blk_cell GI.out.b5 1).trans rfl; have hfz1 := blk_frozen GI.out.b5 1; clear hb))
              have GI3' := GI.out.put (Kd.R_nil (Kd.int .i64) 3 w' w.heap.size (fun _ => True))
              generalize w'.setCell ⟨g5, 1, none⟩ (.slice none 0 0) = W8 at GI3' ⊢
              have GI3 := Aside0.mk GI3'
              clear GI3' GI hcz0 hcz1 hfz1
              have hcz0 : W8.cell? ⟨g5, 0, none⟩ = some (.int .i64 N) := (blk_cell GI3.out.b5 0).trans rfl
              have hcz1 : W8.cell? ⟨g5, 1, none⟩ = some (.slice none 0 0) := (blk_cell GI3.out.b5 1).trans rfl
              have hfz1 := blk_frozen GI3.out.b5 1
              go_wp2_with (first | ((with_reducible refine gate_builtin (b := .append) (xs := #[.tmp 33, .tmp 35]) rfl ?_); at_builtin; refine Kd.R_append (Kd.int .i64) (w0 := w) w.heap.size rfl (.tmp 33) (.tmp 35) 31 3 (.int .i64 0) 8 rfl Try.underlying31 info3 rfl (by decide) (by omega) (.slice none 0 0) [] s [.int .i64 s] (fun _ => True) (fun _ => False) rfl rfl ?aP (fun _ hk => hk.elim) ?aF ?aO ?aB ?aS ?aL ?_; (case aP => exact rfl); (case aF => exact (fun _ _ => trivial)); (case aO => exact GI3.out.row); (case aB => exact GI3.out.below); (case aS => exact GI3.out.below.size); (case aL => simp); intro v1 w11 ho hb hg hat; have GI4 := Aside0.mk (GInv.app GI3.out hb hg ho); have B5 := Aside0.mk (blk_grown GI3.out.b5 hg (Kd.R_ne GI3.out.row GI3.out.b5 (by decide))); obtain ⟨Av, cv, ev⟩ := Kd.R_slice ho; subst ev; clear ho hb hg hat; have hcy : w11.cell? ⟨g5, 1, none⟩ = some (.slice none 0 0) := (blk_cell B5.out 1).trans rfl; have hfy := blk_frozen B5.out 1))
              go_roundg k1
              case measure => omega
              case rel => exact ⟨z, wrap64 (s + 1), _, _, rfl, by first | rfl | (simp; done), H', GI4⟩
            · rw [if_neg c3] at H
              by_cases c4' : l.length < 17592186044416
              · rw [if_pos c4'] at H
                have c4 := Aside0.mk c4'
                have H' := Aside0.mk H
                clear H c4'
                go_upto_region 9 with (first
                  | (go_at_call 52; (with_reducible refine (kinds_size.calls s z _ HZ.out).mono ?_); rintro e w' ⟨rfl, hd⟩; have GIn := Aside0.mk (GI.out.step hd.below); clear GI hcz0 hcz1 hfz1; have GI := GIn; clear GIn; have hcz0 : w'.cell? ⟨g5, 0, none⟩ = some (.int .i64 N) := (blk_cell GI.out.b5 0).trans rfl; have hcz1 : w'.cell? ⟨g5, 1, none⟩ = some v := (blk_cell GI.out.b5 1).trans rfl; have hfz1 := blk_frozen GI.out.b5 1; clear hd)
                  | (go_at_call 30; (with_reducible refine (graphic1_calls kf gb n A c E s true _ (blk_below BK.out GI.out.below) (Kd.C_below HR.out GI.out.below) HC.out HF.out).mono ?_); rintro e w' ⟨rfl, hb⟩; have GIn := Aside0.mk (GI.out.step hb); clear GI hcz0 hcz1 hfz1; have GI := GIn; clear GIn; have hcz0 : w'.cell? ⟨g5, 0, none⟩ = some (.int .i64 N) := (blk_cell GI.out.b5 0).trans rfl; have hcz1 : w'.cell? ⟨g5, 1, none⟩ = some v := (blk_cell GI.out.b5 1).trans rfl; have hfz1 := blk_frozen GI.out.b5 1; clear hb))
                have GI3 := GI
                clear GI hcz0 hcz1 hfz1
                have hcz0 : w'.cell? ⟨g5, 0, none⟩ = some (.int .i64 N) := (blk_cell GI3.out.b5 0).trans rfl
                have hcz1 : w'.cell? ⟨g5, 1, none⟩ = some v := (blk_cell GI3.out.b5 1).trans rfl
                have hfz1 := blk_frozen GI3.out.b5 1
                go_wp2_with (first | ((with_reducible refine gate_builtin (b := .append) (xs := #[.tmp 33, .tmp 35]) rfl ?_); at_builtin; refine Kd.R_append (Kd.int .i64) (w0 := w) w.heap.size rfl (.tmp 33) (.tmp 35) 31 3 (.int .i64 0) 8 rfl Try.underlying31 info3 rfl (by decide) (by omega) v l s [.int .i64 s] (fun _ => True) (fun _ => False) rfl rfl ?aP (fun _ hk => hk.elim) ?aF ?aO ?aB ?aS ?aL ?_; (case aP => exact rfl); (case aF => exact (fun _ _ => trivial)); (case aO => exact GI3.out.row); (case aB => exact GI3.out.below); (case aS => exact GI3.out.below.size); (case aL => have := c4.out; omega); intro v1 w11 ho hb hg hat; have GI4 := Aside0.mk (GInv.app GI3.out hb hg ho); have B5 := Aside0.mk (blk_grown GI3.out.b5 hg (Kd.R_ne GI3.out.row GI3.out.b5 (by decide))); obtain ⟨Av, cv, ev⟩ := Kd.R_slice ho; rw [List.length_append, List.length_singleton] at ev; subst ev; clear ho hb hg hat; have hcy : w11.cell? ⟨g5, 1, none⟩ = some v := (blk_cell B5.out 1).trans rfl; have hfy := blk_frozen B5.out 1))
                go_roundg k1
                case measure => omega
                case rel => exact ⟨most, wrap64 (s + 1), _, _, rfl, by first | rfl | (simp; done), H', GI4⟩
              · rw [if_neg c4'] at H
                exact absurd H (by simp)
      · rw [if_neg c1] at H
        obtain rfl := Option.some.inj H
        clear H
        obtain ⟨Av, cv, ev⟩ := Kd.R_slice GI.out.row
        subst ev
        have hd0 : wr.cell? ⟨g4, 0, none⟩ = some (.int .i64 0) := (blk_cell GI.out.b4 0).trans rfl
        have hd1 : wr.cell? ⟨g4, 1, none⟩ = some (.slice none 0 0) := (blk_cell GI.out.b4 1).trans rfl
        have hfd0 := blk_frozen GI.out.b4 0
        have hfd1 := blk_frozen GI.out.b4 1
        go_wp2
        refine bodyPost_ret (results_cell_row rfl _ _ g4 33 #[.int .i64 N, .slice Av l.length cv] (0, 0) _ rfl (blk_put (blk_put GI.out.b4 0 _ rfl) 1 _ rfl) Try.underlying33 rfl (by kernel_rfl)) rfl ?_
        exact ⟨_, rfl, Kd.R_set (Kd.R_set GI.out.row GI.out.b4 (by decide) 0 _) (blk_put GI.out.b4 0 _ rfl) (by decide) 1 _, below_set (below_set GI.out.below GI.out.h4) GI.out.h4⟩

/-- What kinds.Graphic answers: with rounds enough for whatever graph is one. -/
def Ext.Graphic.f (a0_0 : Int) (l0_1 : List S93) : Option (Int × List Int × Int) :=
  (kinds_CheckGraph.f 100 a0_0 l0_1).bind fun e => if e = 0 then ((great (forest 100 a0_0 l0_1) 1000 (-1) [] (shl .i64 1 (l0_1.length : Int)) 0).bind fun l => some ((l0_1.length : Int), l, 0)) else some (0, [], e)

set_option maxRecDepth 100000 in
set_option maxHeartbeats 2000000 in
theorem Ext.Graphic.calls (a0_0 : Int) (A0_1 : Option Addr) (c0_1 : Nat) (l0_1 : List S93) (r1 : Int) (r2 : List Int) (r3 : Int) (w : World) (hr0_1 : Kd.C k93 w A0_1 l0_1.length l0_1) (hc0_1 : l0_1.length ≤ c0_1) (h : Ext.Graphic.f a0_0 l0_1 = some (r1, r2, r3)) :
    Calls Try.prog 8 #[.agg #[.int .i64 a0_0, .slice A0_1 l0_1.length c0_1]] w fun e w' => ∃ v1_ : Value, e = .returned (.tuple #[.agg #[.int .i64 r1, v1_], .int .i64 r3]) ∧ Kd.R (Kd.int .i64) 3 w' w.heap.size (fun _ => True) v1_ r2 ∧ Below w.heap.size w w' := by
  have HR := Aside0.mk hr0_1
  have HC := Aside0.mk hc0_1
  unfold Ext.Graphic.f at h
  obtain ⟨e, A1, H⟩ := Option.bind_eq_some_iff.mp h
  have HE := Aside0.mk A1
  clear hr0_1 hc0_1 h A1
  by_cases c1 : e = 0
  · rw [if_pos c1] at H
    obtain ⟨l, A2, H⟩ := Option.bind_eq_some_iff.mp H
    simp only [Option.some.injEq, Prod.mk.injEq] at H
    obtain ⟨rfl, rfl, rfl⟩ := H
    have HL := Aside0.mk A2
    have c1b : (e != 0) = false := bne_eq_false_iff_eq.mpr c1
    clear A2 c1
    go_enter Try.func8, Try.ntmps8
    go_wp2_with (first
      | ((with_reducible refine gate_dst (N := 1) rfl ?_); refine box_event ?hg (N := 1) ?hd (cs := #[.int .i64 a0_0, .slice A0_1 l0_1.length c0_1]) (t := 24) ?hr ?_; (case hd => rfl); (case hg => rfl); (case hr => first | (go_simp; done) | (go_simp; rfl)); intro g1 hg1 w1 hbox1 hb1; have B1 := Aside0.mk hbox1; have G1 := Aside0.mk hg1; have HW1 := Aside0.mk hb1; clear hbox1 hg1 hb1)
      | ((with_reducible refine gate_dst (N := 2) rfl ?_); refine box_event ?hg (N := 2) ?hd (cs := #[.int .i64 0, .slice none 0 0]) (t := 33) ?hr ?_; (case hd => rfl); (case hg => rfl); (case hr => first | (go_simp; done) | (go_simp; rfl)); intro g2 hg2 w2 hbox2 hb2; have B2 := Aside0.mk hbox2; have G2 := Aside0.mk hg2; have HW2 := Aside0.mk hb2; have hcz0 : w2.cell? ⟨g1, 0, none⟩ = some (.int .i64 a0_0) := (blk_cell (blk_below B1.out hb2) 0).trans rfl; have hcz1 : w2.cell? ⟨g1, 1, none⟩ = some (.slice A0_1 l0_1.length c0_1) := (blk_cell (blk_below B1.out hb2) 1).trans rfl; clear hbox2 hg2 hb2)
      | (go_at_call 28; (with_reducible refine (kinds_CheckGraph.calls 100 a0_0 A0_1 c0_1 l0_1 e _ (Kd.C_below HR.out (below_step HW1.out HW2.out)) HC.out HE.out).mono ?_); rintro e' w3 ⟨rfl, hb3⟩; have HB := Aside0.mk (below_step (below_step HW1.out HW2.out) hb3); have C1 := Aside0.mk (blk_below (blk_below B1.out HW2.out) hb3); have C2 := Aside0.mk (blk_below B2.out hb3); clear hcz0 hcz1 hb3; have hcz0 : w3.cell? ⟨g1, 0, none⟩ = some (.int .i64 a0_0) := (blk_cell C1.out 0).trans rfl; have hcz1 : w3.cell? ⟨g1, 1, none⟩ = some (.slice A0_1 l0_1.length c0_1) := (blk_cell C1.out 1).trans rfl)
      | (go_at_call 29; (with_reducible refine (greatest_calls 1000 100 g1 a0_0 A0_1 c0_1 l0_1 _ l _ (by omega) C1.out (Kd.C_below HR.out HB.out) HC.out HL.out).mono ?_); rintro e' w4 ⟨v, rfl, hr4, hb4⟩; obtain ⟨Av, cv, ev⟩ := Kd.R_slice hr4; subst ev; have D2 := Aside0.mk (blk_below C2.out hb4); have HB4 := Aside0.mk (below_step HB.out hb4); have HR4 := Aside0.mk (Kd.R_lower hr4 HB.out.size); clear hr4 hb4; have hd0 : w4.cell? ⟨g2, 0, none⟩ = some (.int .i64 0) := (blk_cell D2.out 0).trans rfl; have hd1 : w4.cell? ⟨g2, 1, none⟩ = some (.slice none 0 0) := (blk_cell D2.out 1).trans rfl; have hf0 := blk_frozen D2.out 0; have hf1 := blk_frozen D2.out 1))
    have hg2 : w.heap.size ≤ g2 := by have := G2.out; have := HW1.out.size; omega
    refine bodyPost_ret (results_ct rfl _ _ g2 33 #[.int .i64 (l0_1.length : Int), .slice Av l.length cv] (0, 0) _ rfl (blk_put (blk_put D2.out 0 _ rfl) 1 _ rfl) Try.underlying33 rfl (by kernel_rfl)) rfl ?_
    exact ⟨_, rfl, Kd.R_set (Kd.R_set HR4.out D2.out (by decide) 0 _) (blk_put D2.out 0 _ rfl) (by decide) 1 _, below_set (below_set HB4.out hg2) hg2⟩
  · rw [if_neg c1] at H
    simp only [Option.some.injEq, Prod.mk.injEq] at H
    obtain ⟨rfl, rfl, rfl⟩ := H
    have c1b : (e != 0) = true := bne_iff_ne.mpr c1
    clear c1
    go_enter Try.func8, Try.ntmps8
    go_wp2_with (first
      | ((with_reducible refine gate_dst (N := 1) rfl ?_); refine box_event ?hg (N := 1) ?hd (cs := #[.int .i64 a0_0, .slice A0_1 l0_1.length c0_1]) (t := 24) ?hr ?_; (case hd => rfl); (case hg => rfl); (case hr => first | (go_simp; done) | (go_simp; rfl)); intro g1 hg1 w1 hbox1 hb1; have B1 := Aside0.mk hbox1; have G1 := Aside0.mk hg1; have HW1 := Aside0.mk hb1; clear hbox1 hg1 hb1)
      | ((with_reducible refine gate_dst (N := 2) rfl ?_); refine box_event ?hg (N := 2) ?hd (cs := #[.int .i64 0, .slice none 0 0]) (t := 33) ?hr ?_; (case hd => rfl); (case hg => rfl); (case hr => first | (go_simp; done) | (go_simp; rfl)); intro g2 hg2 w2 hbox2 hb2; have B2 := Aside0.mk hbox2; have G2 := Aside0.mk hg2; have HW2 := Aside0.mk hb2; have hcz0 : w2.cell? ⟨g1, 0, none⟩ = some (.int .i64 a0_0) := (blk_cell (blk_below B1.out hb2) 0).trans rfl; have hcz1 : w2.cell? ⟨g1, 1, none⟩ = some (.slice A0_1 l0_1.length c0_1) := (blk_cell (blk_below B1.out hb2) 1).trans rfl; clear hbox2 hg2 hb2)
      | (go_at_call 28; (with_reducible refine (kinds_CheckGraph.calls 100 a0_0 A0_1 c0_1 l0_1 e _ (Kd.C_below HR.out (below_step HW1.out HW2.out)) HC.out HE.out).mono ?_); rintro e' w3 ⟨rfl, hb3⟩; have HB := Aside0.mk (below_step (below_step HW1.out HW2.out) hb3); have D2 := Aside0.mk (blk_below B2.out hb3); clear hcz0 hcz1 hb3; have hd0 : w3.cell? ⟨g2, 0, none⟩ = some (.int .i64 0) := (blk_cell D2.out 0).trans rfl; have hd1 : w3.cell? ⟨g2, 1, none⟩ = some (.slice none 0 0) := (blk_cell D2.out 1).trans rfl; have hf0 := blk_frozen D2.out 0; have hf1 := blk_frozen D2.out 1))
    have hg2 : w.heap.size ≤ g2 := by have := G2.out; have := HW1.out.size; omega
    refine bodyPost_ret (results_ct rfl _ _ g2 33 #[.int .i64 0, .slice none 0 0] (0, 0) _ rfl (blk_put (blk_put D2.out 0 _ rfl) 1 _ rfl) Try.underlying33 rfl (by kernel_rfl)) rfl ?_
    exact ⟨_, rfl, Kd.R_nil _ _ _ _ _, below_set (below_set HB.out hg2) hg2⟩
end Go.Proofs.Ytkppdmlellmepaa
