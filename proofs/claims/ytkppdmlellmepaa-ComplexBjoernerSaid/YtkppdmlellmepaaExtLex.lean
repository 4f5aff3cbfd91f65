/-
  complex.Lexical: a matroid's bases, by their elements.
-/
import Derived.Test.YtkppdmlellmepaaExtLexA
import Derived.Test.YtkppdmlellmepaaPBx3
namespace Go.Proofs.Ytkppdmlellmepaa
open Go.RowKit Go.Proofs.YtkppdmlellmepaaW.PrintWords Go.Proofs.YtkppdmlellmepaaW.PrintLast Go.Proofs.YtkppdmlellmepaaW.PrintMore
open PB Mat

def toF (x : Int) : Fin 256 := Fin.ofNat 256 x.toNat

theorem iv_toF (l : List Int) (h : ∀ x, x ∈ l → 0 ≤ x ∧ x < 256) : (l.map toF).map iv = l := by
  rw [List.map_map]
  conv => rhs; rw [← List.map_id l]
  refine List.map_congr_left fun x hx => ?_
  obtain ⟨h0, h1⟩ := h x hx
  simp only [Function.comp, iv, toF, Fin.ofNat, id]
  omega

/-- by their elements. -/
def lexed (l : List Int) : List Int := (lexF (l.map toF)).map iv
theorem lexed_length (l : List Int) : (lexed l).length = l.length := by simp [lexed, lexF, List.length_mergeSort]

def Ext.Lexical.f (k : Nat) (a0 : Int) (l : List Int) : Option (List Int × Int) :=
  (axioms_Check.f k a0 l).bind fun e => if e = 0 then (if l.length ≤ 1000000 then (if l.all (fun x => decide (0 ≤ x ∧ x < 256)) = true then some (lexed l, 0) else none) else none) else some ([], e)

theorem Ext.Lexical.mono : ∀ a0 a1 k, LeO (Ext.Lexical.f k a0 a1) (Ext.Lexical.f (k + 1) a0 a1) := fun a0 a1 k => LeO.bind (axioms_Check.mono a0 a1 k) (fun _ => LeO.refl _)

set_option maxRecDepth 100000 in
set_option maxHeartbeats 1600000 in
theorem Ext.Lexical.calls (k : Nat) (a0 : Int) (A : Option Addr) (c : Nat) (l : List Int) (r1 : List Int) (r2 : Int) (w : World) (hr : Kd.C (Kd.int .i64) w A l.length l) (hc : l.length ≤ c) (h : Ext.Lexical.f k a0 l = some (r1, r2)) :
    Calls Try.prog 11 #[.agg #[.int .i64 a0, .slice A l.length c]] w fun e w' => ∃ v1_ : Value, e = .returned (.tuple #[v1_, .int .i64 r2]) ∧ Kd.R (Kd.int .i64) 3 w' w.heap.size (fun _ => True) v1_ r1 ∧ Below w.heap.size w w' := by
  have HR := Aside0.mk hr
  have HC := Aside0.mk hc
  unfold Ext.Lexical.f at h
  obtain ⟨e, A1_, H⟩ := Option.bind_eq_some_iff.mp h
  have HS := Aside0.mk A1_
  clear hr hc h A1_
  go_enter Try.func11, Try.ntmps11
  by_cases ce : e = 0
  case neg =>
    rw [if_neg ce] at H
    simp only [Option.some.injEq, Prod.mk.injEq] at H
    obtain ⟨rfl, rfl⟩ := H
    have hb0 : (e != 0) = true := bne_iff_ne.2 ce
    clear ce
    go_wp2_with (first | ((with_reducible refine gate_dst (N := 1) rfl ?_); refine box_event ?hg (N := 1) ?hd (cs := #[.int .i64 a0, .slice A l.length c]) (t := 33) ?hr ?_; (case hd => rfl); (case hg => rfl); (case hr => first | (go_simp; done) | (go_simp; rfl)); intro g1 hg1 w1 hbox hb; have B1 := Aside0.mk hbox; have G1 := Aside0.mk hg1; have HB1 := Aside0.mk hb; have hc0 := blk_cell hbox 0; have hc1 := blk_cell hbox 1; clear hbox hg1 hb) | (go_at_call 25; (with_reducible refine (axioms_Check.calls k a0 A c l e _ (Kd.C_below HR.out HB1.out) HC.out HS.out).mono ?_); rintro e_ w2 ⟨rfl, hb⟩; have HB2 := Aside0.mk hb; clear hb))
    go_ret2
    exact ⟨_, rfl, Kd.R_nil _ _ _ _ _, below_step HB1.out HB2.out⟩
  case pos =>
    rw [if_pos ce] at H
    subst ce
    by_cases cl : l.length ≤ 1000000
    case neg => rw [if_neg cl] at H; exact absurd H (by simp)
    rw [if_pos cl] at H
    by_cases ca : l.all (fun x => decide (0 ≤ x ∧ x < 256)) = true
    case neg => rw [if_neg ca] at H; exact absurd H (by simp)
    rw [if_pos ca] at H
    simp only [Option.some.injEq, Prod.mk.injEq] at H
    obtain ⟨rfl, rfl⟩ := H
    have HI := Aside0.mk (iv_toF l (by simpa using ca))
    have HL := Aside0.mk cl
    clear ca cl
    go_upto_region 5 with (first | ((with_reducible refine gate_dst (N := 1) rfl ?_); refine box_event ?hg (N := 1) ?hd (cs := #[.int .i64 a0, .slice A l.length c]) (t := 33) ?hr ?_; (case hd => rfl); (case hg => rfl); (case hr => first | (go_simp; done) | (go_simp; rfl)); intro g1 hg1 w1 hbox hb; have B1 := Aside0.mk hbox; have G1 := Aside0.mk hg1; have HB1 := Aside0.mk hb; have hc0 := blk_cell hbox 0; have hc1 := blk_cell hbox 1; clear hbox hg1 hb) | (go_at_call 25; (with_reducible refine (axioms_Check.calls k a0 A c l 0 _ (Kd.C_below HR.out HB1.out) HC.out HS.out).mono ?_); rintro e_ w2 ⟨rfl, hb⟩; have HB2 := Aside0.mk hb; have hc2 := blk_cell (blk_below B1.out hb) 1; clear hb) | (go_at_call 36; (with_reducible refine (clone_calls (c := c) (Kd.C_below HR.out (below_step HB1.out HB2.out)) (by have := HL.out; omega)).mono ?_); rintro e_ w3 ⟨v, rfl, hv, hb⟩; have HV := Aside0.mk hv; have HB3 := Aside0.mk hb; clear hv hb))
    have F : Aside0 (Kd.R (Kd.int .i64) 3 w3 w2.heap.size (fun _ => True) v ((l.map toF).map iv) ∧ (l.map toF).length < 4611686018427387904) := ⟨by rw [HI.out]; exact HV.out, by rw [List.length_map]; have := HL.out; omega⟩
    have FB := Aside0.mk (below_step (below_step HB1.out HB2.out) HB3.out)
    have SZ := Aside0.mk (show w.heap.size ≤ w2.heap.size from Nat.le_trans HB1.out.size HB2.out.size)
    have SZ3 := Aside0.mk HB3.out.size
    clear HI HV HB1 HB2 HB3 B1 G1
    go_wp2_with (go_at_call 37; (with_reducible refine (lexsort_calls F.out.1 F.out.2).mono ?_); rintro e_ w4 ⟨rfl, hR, hg⟩; have HV4 := Aside0.mk hR; have HG := Aside0.mk hg; clear hR hg)
    go_ret2
    refine ⟨_, rfl, Kd.R_lower HV4.out SZ.out, ?_⟩
    exact pw_below_grown FB.out _ FB.out.size HG.out (fun k hk => Nat.le_trans SZ.out (Kd.R_base F.out.1 k hk))
end Go.Proofs.Ytkppdmlellmepaa
