/-
  slices.ContainsFunc with a closure that only reads; complex.faces: all sets within one of a list.
-/
import Derived.Test.YtkppdmlellmepaaShelfB
import Derived.Test.YtkppdmlellmepaaPBx0
import Derived.Shelf.SlicesE.IndexFunc
namespace Go.Proofs.Ytkppdmlellmepaa
open Go.RowKit Go.Proofs.YtkppdmlellmepaaW.PrintWords Go.Proofs.YtkppdmlellmepaaW.PrintLast Go.Proofs.YtkppdmlellmepaaW.PrintMore
open PB

theorem reads_at {w : World} {a : Addr} {l : List Int} (h : Kd.C (Kd.int .i64) w (some a) l.length l) (hp : 0 < l.length) : a.spot = none ∧ ∀ j, j < l.length → w.cell? ⟨a.block, a.off + j, none⟩ = some (.int .i64 l[j]!) := by
  have hat : ∀ j, j < l.length → w.cell? (a.add j) = some (.int .i64 (l.getD j 0)) := fun j hj => by
    obtain ⟨ad, e, hc⟩ := Kd.at_int h (j : Int) (by omega) (by omega)
    injection e with e
    subst e
    simpa [rd] using hc
  have hsp : a.spot = none := by
    have h0 := hat 0 hp
    simp only [Addr.add, if_true] at h0
    cases hs : a.spot with
    | none => rfl
    | some q =>
      exfalso
      unfold World.cell? at h0
      split at h0
      · simp [hs] at h0
      · simp at h0
  refine ⟨hsp, fun j hj => ?_⟩
  obtain ⟨b, off, sp⟩ := a
  simp only at hsp
  subst hsp
  have := hat j hj
  have e1 : l[j]! = l.getD j 0 := by simp [List.getElem!_eq_getElem?_getD, List.getD_eq_getElem?_getD]
  rw [e1]
  simp only [Addr.add] at this
  split at this
  · rename_i h0; subst h0; exact this
  · exact this

/-- slices.ContainsFunc. -/
theorem has_calls {A : Option Addr} {c : Nat} {l : List Int} {w : World} (g : Nat) (lb : Array Value) (p : Int → Bool) (eg : ∀ args w, (callFunc g args).run Try.prog w = .ok (.enter g args) w) (hp : PredAt Try.prog g lb (Value.int .i64) p w)
    (h : Kd.C (Kd.int .i64) w A l.length l) (hs : l.length ≤ 9223372036854775807) :
    Calls Try.prog 43 #[.slice A l.length c, .func (.func g) #[] lb] w fun e w' => e = .returned (.bool (l.any p)) ∧ ∃ q, w' = w.drewN q := by
  cases hl : l with
  | nil =>
    subst hl
    refine (AnyE.slices_ContainsFunc_empty Try.lHas A c _ w).mono fun e w' ⟨he, hw⟩ => ⟨by rw [he]; rfl, 0, hw⟩
  | cons y ys =>
    rw [← hl]
    cases A with
    | none =>
      obtain ⟨ad, e, _⟩ := Kd.at_int h 0 (by omega) (by rw [hl]; simp)
      cases e
    | some a =>
      obtain ⟨h1, h2⟩ := reads_at h (by rw [hl]; simp)
      obtain ⟨b, off, sp⟩ := a
      simp only at h1
      subst h1
      refine (AnyE.slices_ContainsFunc Try.lHas (Value.int .i64) p g lb eg b off l.length c l w hp (Nat.le_refl _) hs h2).mono fun e w' ⟨he, hw⟩ => ?_
      rw [List.take_length] at he
      exact ⟨he, hw⟩

set_option maxHeartbeats 800000 in
/-- does a set lie within a facet? -/
theorem face1_calls (g : Nat) (s x : Int) (w : World) (hb : w.heap[g]? = some (.cells #[.int .i64 s] 3 (0, 0))) :
    Calls Try.prog 127 #[.int .i64 x, .pointer (some ⟨g, 0, none⟩)] w fun e w' => e = .returned (.bool (Go.bits .and .i64 x s == s)) ∧ ∃ q, w' = w.drewN q := by
  have hc0 : w.cell? ⟨g, 0, none⟩ = some (.int .i64 s) := (blk_cell hb 0).trans rfl
  clear hb
  go_enter Try.func127, Try.ntmps127
  go_wp2
  go_ret
  exact ⟨rfl, 0, rfl⟩

/-- all sets from s on. -/
def facesL (t : Int) (l : List Int) : Nat → List Int → Int → Option (List Int)
  | 0, _, _ => none
  | k + 1, out, s => if s < t then (if l.any (fun f => Go.bits .and .i64 f s == s) = true then (if out.length < 17592186044416 then facesL t l k (out ++ [s]) (wrap64 (s + 1)) else none) else facesL t l k out (wrap64 (s + 1))) else some out

def Ext.faces.f (a0 : Int) (l1 : List Int) : Option (List Int) := if 0 ≤ a0 then (if l1.length ≤ 1000000 then facesL (shl .i64 1 a0) l1 1000 [] 0 else none) else none

set_option maxRecDepth 100000 in
set_option maxHeartbeats 1600000 in
theorem Ext.faces.calls (a0 : Int) (A1 : Option Addr) (c1 : Nat) (l1 : List Int) (r : List Int) (w : World) (hr1 : Kd.C (Kd.int .i64) w A1 l1.length l1) (_hc1 : l1.length ≤ c1) (h : Ext.faces.f a0 l1 = some r) :
    Calls Try.prog 111 #[.int .i64 a0, .slice A1 l1.length c1] w fun e w' => ∃ v0_ : Value, e = .returned (v0_) ∧ Kd.R (Kd.int .i64) 3 w' w.heap.size (fun _ => True) v0_ r ∧ Below w.heap.size w w' := by
  have HR := Aside0.mk hr1
  unfold Ext.faces.f at h
  by_cases h0 : 0 ≤ a0
  case neg => rw [if_neg h0] at h; exact absurd h (by simp)
  rw [if_pos h0] at h
  by_cases hl : l1.length ≤ 1000000
  case neg => rw [if_neg hl] at h; exact absurd h (by simp)
  rw [if_pos hl] at h
  have HL := Aside0.mk (show l1.length ≤ 9223372036854775807 by omega)
  obtain ⟨t, ht⟩ : ∃ t, shl .i64 1 a0 = t := ⟨_, rfl⟩
  rw [ht] at h
  have ht_ : (IntKind.i64.wrap (1 * 2 ^ min a0.toNat 64)) = t := ht
  have htu : (IntKind.i64.wrap (2 ^ min a0.toNat 64)) = t := by have h_ := ht_; rw [Int.one_mul] at h_; exact h_
  have H' := Aside0.mk h
  have eg : ∀ args w, (callFunc 127 args).run Try.prog w = .ok (.enter 127 args) w := enters_of Try.func127 (by kernel_rfl) rfl
  clear hr1 _hc1 h hl
  go_enter Try.func111, Try.ntmps111
  go_wp2
  clear ht ht_ htu
  have GB := Aside0.mk (Below.refl w.heap.size w)
  have GR := Aside0.mk (Kd.R_nil (Kd.int .i64) 3 w w.heap.size (fun _ => True))
  go_loopg [5, 9] 1000 (fun kq v5 v9 w' => ∃ (s : Int) (v : Value) (out : List Int), v5 = v ∧ v9 = .int .i64 s ∧ Aside0 (facesL t l1 kq out s = some r) ∧ Aside0 (Below w.heap.size w w') ∧ Aside0 (Kd.R (Kd.int .i64) 3 w' w.heap.size (fun _ => True) v out))
  case atStart => exact ⟨0, _, _, rfl, rfl, H', GB, GR⟩
  case round =>
    clear H' GB GR
    obtain ⟨s, v, out, rfl, rfl, HA, GB, GR⟩ := hrel
    cases gk with
    | zero => exact absurd HA.out (by simp [facesL])
    | succ k1 =>
      have H := HA.out
      clear HA
      simp only [facesL] at H
      by_cases c1 : s < t
      · rw [if_pos c1] at H
        have H2 := Aside0.mk H
        clear H
        go_upto_region 5 with ((with_reducible refine gate_dst (N := 6) rfl ?_); refine box_event ?hg (N := 6) ?hd (cs := #[.int .i64 0]) (t := 3) ?hr ?_; (case hd => rfl); (case hg => rfl); (case hr => first | (go_simp; done) | (go_simp; rfl)); intro g6 hg6 w1 hbox hb; have B6 := Aside0.mk hbox; have G6 := Aside0.mk hg6; have HB1 := Aside0.mk hb; have hc6 : w1.cell? ⟨g6, 0, none⟩ = some (.int .i64 0) := (blk_cell hbox 0).trans rfl; have hf6 := blk_frozen hbox 0; clear hbox hg6 hb)
        have F : Aside0 (Below w.heap.size w (w1.setCell ⟨g6, 0, none⟩ (.int .i64 s)) ∧ (w1.setCell ⟨g6, 0, none⟩ (.int .i64 s)).heap[g6]? = some (.cells #[.int .i64 s] 3 (0, 0)) ∧ Kd.R (Kd.int .i64) 3 (w1.setCell ⟨g6, 0, none⟩ (.int .i64 s)) w.heap.size (fun _ => True) u5 out) := by
          have e6 := G6.out
          have s1 := GB.out.size
          have hR1 : Kd.R (Kd.int .i64) 3 w1 w.heap.size (fun k => k < wr.heap.size) u5 out := Kd.R_below (Kd.R_mono (Kd.R_bound GR.out) (fun _ h => h.2.2.1)) HB1.out
          exact ⟨below_set (below_step GB.out HB1.out) (show w.heap.size ≤ g6 by omega), blk_put B6.out 0 _ rfl, Kd.R_mono (Kd.R_far (p := ⟨g6, 0, none⟩) hR1 (fun k hk => show k ≠ g6 by omega) (.int .i64 s)) (fun _ _ => trivial)⟩
        clear B6 G6 HB1 hc6 hf6 GB GR
        generalize (w1.setCell ⟨g6, 0, none⟩ (.int .i64 s)) = W2 at *
        have hc6 : W2.cell? ⟨g6, 0, none⟩ = some (.int .i64 s) := (blk_cell F.out.2.1 0).trans rfl
        have HP : Aside0 (PredAt Try.prog 127 #[.pointer (some ⟨g6, 0, none⟩)] (Value.int .i64) (fun f => Go.bits .and .i64 f s == s) W2) := ⟨fun W x hb => face1_calls g6 s x W (blk_below F.out.2.1 hb)⟩
        have H := H2.out
        clear H2
        by_cases c2 : l1.any (fun f => Go.bits .and .i64 f s == s) = true
        · rw [if_pos c2] at H
          by_cases c4' : out.length < 17592186044416
          · rw [if_pos c4'] at H
            have c4 := Aside0.mk c4'
            have H' := Aside0.mk H
            clear H c4'
            go_upto_region 6 with (go_at_call 43; (with_reducible refine (has_calls 127 #[.pointer (some ⟨g6, 0, none⟩)] _ eg HP.out (Kd.C_below HR.out F.out.1) HL.out).mono ?_); rintro e w' ⟨rfl, q, rfl⟩)
            have F3 : Aside0 (Below w.heap.size w (W2.drewN q) ∧ Kd.R (Kd.int .i64) 3 (W2.drewN q) w.heap.size (fun _ => True) u5 out) := ⟨below_drewN' F.out.1 q, Kd.R_drewN F.out.2.2 q⟩
            have hc7 : (W2.drewN q).cell? ⟨g6, 0, none⟩ = some (.int .i64 s) := hc6
            clear F hc6 HP
            generalize W2.drewN q = W3 at *
            go_wp2_with (first | ((with_reducible refine gate_builtin (b := .append) (xs := #[.tmp 15, .tmp 17]) rfl ?_); at_builtin; refine Kd.R_append (Kd.int .i64) (w0 := w) w.heap.size rfl (.tmp 15) (.tmp 17) 31 3 (.int .i64 0) 8 rfl Try.underlying31 info3 rfl (by decide) (by omega) u5 out s [.int .i64 s] (fun _ => True) (fun _ => False) rfl rfl ?aP (fun _ hk => hk.elim) ?aF ?aO ?aB ?aS ?aL ?_; (case aP => exact rfl); (case aF => exact (fun _ _ => trivial)); (case aO => exact F3.out.2); (case aB => exact F3.out.1); (case aS => exact F3.out.1.size); (case aL => have := c4.out; omega); intro v1 w11 ho hb hg hat; have GB4 := Aside0.mk hb; have GR4 := Aside0.mk ho; clear ho hb hg hat))
            go_roundg k1
            case measure => omega
            case rel => exact ⟨wrap64 (s + 1), _, _, rfl, by first | rfl | (simp; done), H', GB4, GR4⟩
          · rw [if_neg c4'] at H
            exact absurd H (by simp)
        · rw [if_neg c2] at H
          have H' := Aside0.mk H
          clear H
          go_wp2_with (go_at_call 43; (with_reducible refine (has_calls 127 #[.pointer (some ⟨g6, 0, none⟩)] _ eg HP.out (Kd.C_below HR.out F.out.1) HL.out).mono ?_); rintro e w' ⟨rfl, q, rfl⟩)
          go_roundg k1
          case measure => omega
          case rel => exact ⟨wrap64 (s + 1), _, out, rfl, by first | rfl | (simp; done), H', ⟨below_drewN' F.out.1 q⟩, ⟨Kd.R_drewN F.out.2.2 q⟩⟩
      · rw [if_neg c1] at H
        obtain rfl := Option.some.inj H
        clear H
        go_wp2
        go_ret
        exact ⟨_, rfl, GR.out, GB.out⟩
end Go.Proofs.Ytkppdmlellmepaa
