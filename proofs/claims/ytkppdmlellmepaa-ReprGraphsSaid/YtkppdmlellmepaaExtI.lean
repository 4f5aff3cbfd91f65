/-
  same.Isomorphic: the first order of the elements, in the order of the search, that makes one rank function of the other.
  same.each, called for the first order: both matroids' ranks are reckoned, then the search begins.
  same.Isomorphic: both are looked at, then the first order is searched.
-/
import Derived.Test.YtkppdmlellmepaaPAx3
import Derived.Test.YtkppdmlellmepaaPAx4
import Derived.Test.YtkppdmlellmepaaPAx6
import Derived.Test.YtkppdmlellmepaaExtMade
import Derived.StillTailTactics
import Derived.Laws.EntriesVeiled
namespace Go.Proofs.Ytkppdmlellmepaa
open Go.RowKit Go.Proofs.YtkppdmlellmepaaW.PrintWords Go.Proofs.YtkppdmlellmepaaW.PrintLast Go.Proofs.YtkppdmlellmepaaW.PrintMore
open PA

/-- do the sets from s on have the rank of what they become? -/
def isoFit (x y p : List Int) (t : Int) : Nat → Int → Option Bool
  | 0, _ => none
  | k + 1, s => if s < t then (if 0 ≤ s then (if s < (x.length : Int) then (same_moved.f 20 p s).bind fun m => if 0 ≤ m then (if m < (y.length : Int) then (if rd x s = rd y m then isoFit x y p t k (wrap64 (s + 1)) else some false) else none) else none else none) else none) else some true

/-- the elements from k on, each in its turn. -/
def isoL (m : Int) (step : Int → Option (Option (List Int))) : Nat → Int → Option (Option (List Int))
  | 0, _ => none
  | j + 1, k => if k < m then (if 0 ≤ k then (step k).bind fun r => match r with
      | some q => some (some q)
      | none => isoL m step j (wrap64 (k + 1)) else none) else some none

/-- the first order that goes on from p. -/
def isoFrom (n m : Int) (x y : List Int) : Nat → List Int → Int → Option (Option (List Int))
  | 0, _, _ => none
  | f + 1, p, used => if p.length < 20 then if (p.length : Int) = n then some (some p) else
      isoL m (fun k => if Go.bits .and .i64 (shr .i64 used k) 1 = 1 then some none else
        (isoFit x y (p ++ [k]) (shl .i64 2 p.length) 1000 (shl .i64 1 p.length)).bind fun b => if b = true then isoFrom n m x y f (p ++ [k]) (Go.bits .or .i64 used (shl .i64 1 k)) else some none) 20 0 else none

def Ext.Isomorphic.f (a0_0 : Int) (l0_1 : List Int) (a1_0 : Int) (l1_1 : List Int) : Option (List Int × Int) :=
  (axioms_Check.f 20000 a0_0 l0_1).bind fun e => (axioms_Check.f 20000 a1_0 l1_1).bind fun f => if e ≠ 0 then some ([], e) else if f ≠ 0 then some ([], f) else
    if a0_0 = a1_0 ∧ l0_1.length = l1_1.length then (same_ranks.f 20000 a0_0 l0_1).bind fun x => (same_ranks.f 20000 a1_0 l1_1).bind fun y =>
      (isoFrom a0_0 a1_0 x y 20 [] 0).bind fun r => match r with
        | some p => some (p, 0)
        | none => some ([], 5)
    else some ([], 5)

set_option maxHeartbeats 800000 in
/-- the order is kept: it was found. -/
theorem iso1_calls (go gn : Nat) (A : Option Addr) (c : Nat) (p : List Int) (vo : Value) (b : Bool) (W : World)
    (ho : W.heap[go]? = some (.cells #[vo] 31 (0, 0))) (hn : W.heap[gn]? = some (.cells #[.bool b] 4 (0, 0))) (hr : Kd.C (Kd.int .i64) W A p.length p) (hl : p.length < 30) :
    Calls Try.prog 117 #[.slice A p.length c, .pointer (some ⟨go, 0, none⟩), .pointer (some ⟨gn, 0, none⟩)] W fun e W' => e = .returned (.bool false) ∧
      ∃ v W1, Below W.heap.size W W1 ∧ Kd.R (Kd.int .i64) 3 W1 W.heap.size (fun _ => True) v p ∧ W' = (W1.setCell ⟨go, 0, none⟩ v).setCell ⟨gn, 0, none⟩ (.bool true) := by
  have HR := Aside0.mk hr
  have HO := Aside0.mk ho
  have HN := Aside0.mk hn
  have HL := Aside0.mk hl
  have hne : go ≠ gn := fun e => by rw [e, hn] at ho; simp at ho
  have hen : gn ≠ go := fun e => hne e.symm
  clear hr ho hn hl
  go_enter Try.func117, Try.ntmps117
  go_wp2_with (go_at_call 36; (with_reducible refine (clone_calls (c := c) HR.out (by have := HL.out; omega)).mono ?_); rintro e w' ⟨v, rfl, hv, hb⟩; obtain ⟨Av, cv, ev⟩ := Kd.R_slice hv; subst ev; have HV := Aside0.mk hv; have HB := Aside0.mk hb; have HO1 := blk_below HO.out hb; have HN1 := blk_below HN.out hb; clear hv hb; have hc0 := blk_cell HO1 0; have hc1 := blk_cell HN1 0; have hf0 := blk_frozen HO1 0; have hf1 := blk_frozen HN1 0; simp only [List.getElem?_toArray, List.getElem?_cons_zero] at hc0 hc1)
  go_ret
  exact ⟨rfl, _, _, HB.out, HV.out, rfl⟩

/-- what is in memory of the search for an order: boxes of both matroids, of the closure, of the ranks; p is the search's own. -/
structure IsoInv (w : World) (b1 ga gb gd gx gy gp gf go gn : Nat) (n m : Int) (va vb : Value) (Ax Ay : Option Addr) (cx cy : Nat) (x y : List Int) (p : List Int) (res : Option (List Int)) (W : World) : Prop where
  below : Below w.heap.size w W
  base : w.heap.size ≤ b1
  size : b1 ≤ W.heap.size
  lp : w.heap.size ≤ gp
  lo : w.heap.size ≤ go
  ln : w.heap.size ≤ gn
  po : gp ≠ go
  px : gp ≠ gx
  py : gp ≠ gy
  ox : go ≠ gx
  oy : go ≠ gy
  ha : W.heap[ga]? = some (.cells #[.int .i64 n, va] 33 (0, 0))
  hb : W.heap[gb]? = some (.cells #[.int .i64 m, vb] 33 (0, 0))
  hd : W.heap[gd]? = some (.cells #[.func (.func 117) #[] #[.pointer (some ⟨go, 0, none⟩), .pointer (some ⟨gn, 0, none⟩)]] 132 (0, 0))
  hx : W.heap[gx]? = some (.cells #[.slice Ax x.length cx] 31 (0, 0))
  hy : W.heap[gy]? = some (.cells #[.slice Ay y.length cy] 31 (0, 0))
  hf : W.heap[gf]? = some (.cells #[.func (.func 128) #[] #[.pointer (some ⟨gp, 0, none⟩), .pointer (some ⟨ga, 0, none⟩), .pointer (some ⟨gd, 0, none⟩), .pointer (some ⟨gb, 0, none⟩), .pointer (some ⟨gx, 0, none⟩), .pointer (some ⟨gy, 0, none⟩), .pointer (some ⟨gf, 0, none⟩)]] 69 (0, 0))
  rx : Kd.R (Kd.int .i64) 3 W w.heap.size (fun k => k < b1) (.slice Ax x.length cx) x
  ry : Kd.R (Kd.int .i64) 3 W w.heap.size (fun k => k < b1) (.slice Ay y.length cy) y
  hp : ∃ A c, W.heap[gp]? = some (.cells #[.slice A p.length c] 31 (0, 0)) ∧ Kd.R (Kd.int .i64) 3 W b1 (fun _ => True) (.slice A p.length c) p
  ho : ∃ vo, W.heap[go]? = some (.cells #[vo] 31 (0, 0)) ∧ W.heap[gn]? = some (.cells #[.bool res.isSome] 4 (0, 0)) ∧ (res = none → vo = .slice none 0 0) ∧ ∀ r, res = some r → Kd.R (Kd.int .i64) 3 W b1 (fun _ => True) vo r

section
variable {w : World} {b1 ga gb gd gx gy gp gf go gn : Nat} {n m : Int} {va vb : Value} {Ax Ay : Option Addr} {cx cy : Nat} {x y p : List Int} {res : Option (List Int)} {W W1 : World}

theorem IsoInv.step (h : IsoInv w b1 ga gb gd gx gy gp gf go gn n m va vb Ax Ay cx cy x y p res W) (hb : Below W.heap.size W W1) :
    IsoInv w b1 ga gb gd gx gy gp gf go gn n m va vb Ax Ay cx cy x y p res W1 := by
  obtain ⟨A, c, h1, h2⟩ := h.hp
  obtain ⟨vo, h3, h4, h5, h6⟩ := h.ho
  exact ⟨below_step h.below hb, h.base, Nat.le_trans h.size hb.size, h.lp, h.lo, h.ln, h.po, h.px, h.py, h.ox, h.oy, blk_below h.ha hb, blk_below h.hb hb, blk_below h.hd hb, blk_below h.hx hb, blk_below h.hy hb, blk_below h.hf hb,
    Kd.R_below h.rx hb, Kd.R_below h.ry hb, ⟨A, c, blk_below h1 hb, Kd.R_below h2 hb⟩, ⟨vo, blk_below h3 hb, blk_below h4 hb, h5, fun r e => Kd.R_below (h6 r e) hb⟩⟩

/-- a box of another type than p's is another one. -/
theorem blk_other {W : World} {g g' t t' : Nat} {o o' : Array Value} (h : W.heap[g]? = some (.cells o t (0, 0))) (h' : W.heap[g']? = some (.cells o' t' (0, 0))) (ht : t ≠ t') : g ≠ g' := fun e => by
  rw [e, h'] at h
  simp only [Option.some.injEq, Obj.cells.injEq] at h
  exact ht h.2.1.symm

/-- p is set to another row of the search's own. -/
theorem IsoInv.put {A : Option Addr} {c : Nat} {p' : List Int} (h : IsoInv w b1 ga gb gd gx gy gp gf go gn n m va vb Ax Ay cx cy x y p res W) (hr : Kd.R (Kd.int .i64) 3 W b1 (fun _ => True) (.slice A p'.length c) p') :
    IsoInv w b1 ga gb gd gx gy gp gf go gn n m va vb Ax Ay cx cy x y p' res (W.setCell ⟨gp, 0, none⟩ (.slice A p'.length c)) := by
  obtain ⟨A1, c1, h1, h2⟩ := h.hp
  obtain ⟨vo, h3, h4, h5, h6⟩ := h.ho
  exact ⟨below_set h.below h.lp, h.base, by rw [World.size_setCell]; exact h.size, h.lp, h.lo, h.ln, h.po, h.px, h.py, h.ox, h.oy, blk_far h.ha (blk_other h.ha h1 (by decide)) _, blk_far h.hb (blk_other h.hb h1 (by decide)) _, blk_far h.hd (blk_other h.hd h1 (by decide)) _,
    blk_far h.hx (fun e => h.px e.symm) _, blk_far h.hy (fun e => h.py e.symm) _, blk_far h.hf (blk_other h.hf h1 (by decide)) _, Kd.R_set h.rx h1 (by decide) 0 _, Kd.R_set h.ry h1 (by decide) 0 _,
    ⟨A, c, blk_put h1 0 _ rfl, Kd.R_set hr h1 (by decide) 0 _⟩, ⟨vo, blk_far h3 (fun e => h.po e.symm) _, blk_far h4 (blk_other h4 h1 (by decide)) _, h5, fun r e => Kd.R_set (h6 r e) h1 (by decide) 0 _⟩⟩

/-- append's step, ahead of the store. -/
theorem IsoInv.app {A : Option Addr} {c : Nat} (h : IsoInv w b1 ga gb gd gx gy gp gf go gn n m va vb Ax Ay cx cy x y p none W) (h1 : W.heap[gp]? = some (.cells #[.slice A p.length c] 31 (0, 0))) (h2 : Kd.R (Kd.int .i64) 3 W b1 (fun _ => True) (.slice A p.length c) p)
    {v1 : Value} {k : Int} (hr : Kd.R (Kd.int .i64) 3 W1 b1 (fun _ => True) v1 (p ++ [k])) (hb : Below w.heap.size w W1) (hg : W.grownBy W1 (Value.slice A p.length c).ownBlock) :
    ∃ A' c', v1 = .slice A' (p ++ [k]).length c' ∧ IsoInv w b1 ga gb gd gx gy gp gf go gn n m va vb Ax Ay cx cy x y (p ++ [k]) none (W1.setCell ⟨gp, 0, none⟩ (.slice A' (p ++ [k]).length c')) := by
  obtain ⟨A1, c1, rfl⟩ := Kd.R_slice hr
  refine ⟨A1, c1, rfl, ?_⟩
  have hne : ∀ {g t : Nat} {o : Array Value}, t ≠ 3 → W.heap[g]? = some (.cells o t (0, 0)) → W1.heap[g]? = some (.cells o t (0, 0)) := fun ht hg' => blk_grown hg' hg (Kd.R_ne h2 hg' (by simpa [Kd.int, Kd.scalar] using fun e => ht e.symm))
  have hold : ∀ k, k < b1 → some k ≠ (Value.slice A p.length c).ownBlock := fun k hk e => by
    have := Kd.R_base h2 k e.symm
    omega
  obtain ⟨vo, h3, h4, h5, h6⟩ := h.ho
  have g1 := hne (by decide) h1
  exact ⟨below_set hb h.lp, h.base, by rw [World.size_setCell]; exact Nat.le_trans h.size hg.size, h.lp, h.lo, h.ln, h.po, h.px, h.py, h.ox, h.oy, blk_far (hne (by decide) h.ha) (blk_other h.ha h1 (by decide)) _, blk_far (hne (by decide) h.hb) (blk_other h.hb h1 (by decide)) _, blk_far (hne (by decide) h.hd) (blk_other h.hd h1 (by decide)) _,
    blk_far (hne (by decide) h.hx) (fun e => h.px e.symm) _, blk_far (hne (by decide) h.hy) (fun e => h.py e.symm) _, blk_far (hne (by decide) h.hf) (blk_other h.hf h1 (by decide)) _, Kd.R_set (Kd.R_grown h.rx hg hold) g1 (by decide) 0 _, Kd.R_set (Kd.R_grown h.ry hg hold) g1 (by decide) 0 _,
    ⟨A1, c1, blk_put g1 0 _ rfl, Kd.R_set hr g1 (by decide) 0 _⟩, ⟨vo, blk_far (hne (by decide) h3) (fun e => h.po e.symm) _, blk_far (hne (by decide) h4) (blk_other h4 h1 (by decide)) _, h5, fun r e => absurd e (by simp)⟩⟩

/-- the order is found. -/
theorem IsoInv.found {v : Value} (h : IsoInv w b1 ga gb gd gx gy gp gf go gn n m va vb Ax Ay cx cy x y p none W) (hb : Below W.heap.size W W1) (hr : Kd.R (Kd.int .i64) 3 W1 W.heap.size (fun _ => True) v p) :
    IsoInv w b1 ga gb gd gx gy gp gf go gn n m va vb Ax Ay cx cy x y p (some p) ((W1.setCell ⟨go, 0, none⟩ v).setCell ⟨gn, 0, none⟩ (.bool true)) := by
  have h0 := h.step hb
  have hz := h.size
  clear h hb
  obtain ⟨A1, c1, h1, h2⟩ := h0.hp
  obtain ⟨vo, h3, h4, h5, h6⟩ := h0.ho
  have hr' := Kd.R_lower hr hz
  have hon : go ≠ gn := blk_other h3 h4 (by decide)
  have h4' := blk_far h4 (fun e => hon e.symm) (p := ⟨go, 0, none⟩) v
  exact ⟨below_set (below_set h0.below h0.lo) h0.ln, h0.base, by rw [World.size_setCell, World.size_setCell]; exact h0.size, h0.lp, h0.lo, h0.ln, h0.po, h0.px, h0.py, h0.ox, h0.oy,
    blk_far (blk_far h0.ha (blk_other h0.ha h3 (by decide)) _) (blk_other h0.ha h4 (by decide)) _, blk_far (blk_far h0.hb (blk_other h0.hb h3 (by decide)) _) (blk_other h0.hb h4 (by decide)) _, blk_far (blk_far h0.hd (blk_other h0.hd h3 (by decide)) _) (blk_other h0.hd h4 (by decide)) _,
    blk_far (blk_far h0.hx (fun e => h0.ox e.symm) _) (blk_other h0.hx h4 (by decide)) _, blk_far (blk_far h0.hy (fun e => h0.oy e.symm) _) (blk_other h0.hy h4 (by decide)) _, blk_far (blk_far h0.hf (blk_other h0.hf h3 (by decide)) _) (blk_other h0.hf h4 (by decide)) _,
    Kd.R_set (Kd.R_set h0.rx h3 (by decide) 0 _) h4' (by decide) 0 _, Kd.R_set (Kd.R_set h0.ry h3 (by decide) 0 _) h4' (by decide) 0 _,
    ⟨A1, c1, blk_far (blk_far h1 h0.po _) (blk_other h1 h4 (by decide)) _, Kd.R_set (Kd.R_set h2 h3 (by decide) 0 _) h4' (by decide) 0 _⟩,
    ⟨v, blk_far (blk_put h3 0 _ rfl) hon _, blk_put h4' 0 _ rfl, fun e => absurd e (by simp), fun r e => by
      injection e with e
      subst e
      exact Kd.R_set (Kd.R_set hr' h3 (by decide) 0 _) h4' (by decide) 0 _⟩⟩
end

theorem moved_q {W : World} {base : Nat} {ok : Nat → Prop} {A : Option Addr} {N c : Nat} {l : List Int} {s r : Int} (hr : Kd.R (Kd.int .i64) 3 W base ok (.slice A N c) l) (h : same_moved.f 20 l s = some r) (q : Nat) :
    Calls Try.prog 129 #[.slice A N c, .int .i64 s] (W.drewN q) fun e w' => e = .returned (.int .i64 r) ∧ ∃ m, w' = (W.drewN q).drewN m := by
  have h1 := Kd.R_reads' (Kd.R_drewN hr q)
  obtain ⟨rfl, h2, h3⟩ := h1
  exact (same_moved.calls 20 A c l s r _ h3 h2 h).mono fun e w' ⟨he, hd⟩ => ⟨he, hd.out⟩

set_option maxRecDepth 100000 in
set_option maxHeartbeats 2000000 in
theorem isoFrom_calls (w : World) (b1 ga gb gd gx gy gp gf go gn : Nat) (n m : Int) (va vb : Value) (Ax Ay : Option Addr) (cx cy : Nat) (x y : List Int) :
    ∀ (f : Nat) (p : List Int) (used : Int) (res : Option (List Int)) (W : World), IsoInv w b1 ga gb gd gx gy gp gf go gn n m va vb Ax Ay cx cy x y p none W → isoFrom n m x y f p used = some res →
    Calls Try.prog 128 #[.int .i64 used, .pointer (some ⟨gp, 0, none⟩), .pointer (some ⟨ga, 0, none⟩), .pointer (some ⟨gd, 0, none⟩), .pointer (some ⟨gb, 0, none⟩), .pointer (some ⟨gx, 0, none⟩), .pointer (some ⟨gy, 0, none⟩), .pointer (some ⟨gf, 0, none⟩)] W fun e W' =>
      e = .returned (.bool (!res.isSome)) ∧ IsoInv w b1 ga gb gd gx gy gp gf go gn n m va vb Ax Ay cx cy x y p res W' := by
  intro f
  induction f with
  | zero => intro p used res W _ h; simp [isoFrom] at h
  | succ f ih =>
    intro p used res W hi h
    have IH := Aside0.mk ih
    have IV := Aside0.mk hi
    simp only [isoFrom] at h
    obtain ⟨Ap, cp, hgp, hrp⟩ := hi.hp
    have HRP := Aside0.mk hrp
    have HGP := Aside0.mk hgp
    have hcp : W.cell? ⟨gp, 0, none⟩ = some (.slice Ap p.length cp) := (blk_cell hgp 0).trans rfl
    have hca : W.cell? ⟨ga, 0, none⟩ = some (.int .i64 n) := (blk_cell hi.ha 0).trans rfl
    have hcb : W.cell? ⟨gb, 0, none⟩ = some (.int .i64 m) := (blk_cell hi.hb 0).trans rfl
    have hcd : W.cell? ⟨gd, 0, none⟩ = some (.func (.func 117) #[] #[.pointer (some ⟨go, 0, none⟩), .pointer (some ⟨gn, 0, none⟩)]) := (blk_cell hi.hd 0).trans rfl
    clear ih hi hgp hrp
    by_cases c2 : p.length < 20
    case neg => rw [if_neg c2] at h; exact absurd h (by simp)
    rw [if_pos c2] at h
    by_cases c1 : (p.length : Int) = n
    · rw [if_pos c1] at h
      injection h with h
      subst h
      go_enter Try.func128, Try.ntmps128
      obtain ⟨vo, ho3, ho4, ho5, ho6⟩ := IV.out.ho
      have HO3 := Aside0.mk ho3
      have HO4 := Aside0.mk ho4
      clear ho3 ho4 ho5 ho6
      go_wp2_with (go_at_call 117; (refine (iso1_calls go gn Ap cp p vo _ _ HO3.out HO4.out (Kd.R_reads' HRP.out).2.2 (by omega)).mono ?_); rintro e w' ⟨rfl, v1, W1, hb1, hv1, hw'⟩; have HF := Aside0.mk (IV.out.found hb1 hv1); rw [← hw'] at HF; clear hb1 hv1 hw')
      go_ret
      exact ⟨rfl, HF.out⟩
    · rw [if_neg c1] at h
      obtain ⟨t1, ht1⟩ : ∃ t, shl .i64 1 (p.length : Int) = t := ⟨_, rfl⟩
      obtain ⟨t2, ht2⟩ : ∃ t, shl .i64 2 (p.length : Int) = t := ⟨_, rfl⟩
      rw [ht1, ht2] at h
      have ht1u : IntKind.i64.wrap (2 ^ min p.length 64) = t1 := by have h_ : IntKind.i64.wrap (1 * 2 ^ min p.length 64) = t1 := ht1; rw [Int.one_mul] at h_; exact h_
      have ht1w : wrap64 (2 ^ min p.length 64) = t1 := (i64_w _).symm.trans ht1u
      have ht2u : IntKind.i64.wrap (2 * 2 ^ min p.length 64) = t2 := ht2
      have ht2w : wrap64 (2 * 2 ^ min p.length 64) = t2 := (i64_w _).symm.trans ht2u
      clear ht1 ht2
      have h' := Aside0.mk h
      have C1 := Aside0.mk c1
      have c1b : ((p.length : Int) == n) = false := beq_eq_false_iff_ne.mpr c1
      have C2 := Aside0.mk c2
      clear h
      go_enter Try.func128, Try.ntmps128
      go_wp2
      try rw [c1b]
      clear c1b
      clear c1 c2 hcp hca hcb hcd HGP HRP
      go_loopg [26] 20 (fun kq v26 w' => ∃ (ki : Int), v26 = .int .i64 ki ∧ Aside0 (isoL m (fun k => if Go.bits .and .i64 (shr .i64 used k) 1 = 1 then some none else
        (isoFit x y (p ++ [k]) t2 1000 t1).bind fun b => if b = true then isoFrom n m x y f (p ++ [k]) (Go.bits .or .i64 used (shl .i64 1 k)) else some none) kq ki = some res) ∧ Aside0 (IsoInv w b1 ga gb gd gx gy gp gf go gn n m va vb Ax Ay cx cy x y p none w'))
      case atStart => exact ⟨0, rfl, h', IV⟩
      case round =>
        clear IV h'
        obtain ⟨ki, rfl, HA, IV⟩ := hrel
        cases gk with
        | zero => exact absurd HA.out (by simp [isoL])
        | succ k1 =>
          have H := HA.out
          clear HA
          simp only [isoL] at H
          by_cases c3 : ki < m
          · rw [if_pos c3] at H
            by_cases c4 : 0 ≤ ki
            case neg => rw [if_neg c4] at H; exact absurd H (by simp)
            rw [if_pos c4] at H
            by_cases c5 : Go.bits .and .i64 (shr .i64 used ki) 1 = 1
            · rw [if_pos c5] at H
              have c5b : (Go.bits .and .i64 (used / 2 ^ min ki.toNat 64) 1 == 1) = true := beq_iff_eq.mpr c5
              have H' := Aside0.mk H
              clear H
              go_wp2
              go_roundg k1
              case measure => omega
              case rel => exact ⟨_, rfl, H', IV⟩
            · rw [if_neg c5] at H
              have c5b : (Go.bits .and .i64 (used / 2 ^ min ki.toNat 64) 1 == 1) = false := beq_eq_false_iff_ne.mpr c5
              obtain ⟨r1, H1, H2⟩ := Option.bind_eq_some_iff.mp H
              obtain ⟨fit, H3, H4⟩ := Option.bind_eq_some_iff.mp H1
              have H2a := Aside0.mk H2
              have H3a := Aside0.mk H3
              have H4a := Aside0.mk H4
              clear H H1 H2 H3 H4
              obtain ⟨Ap, cp, hgp, hrp⟩ := IV.out.hp
              have HRP := Aside0.mk hrp
              have HGP := Aside0.mk hgp
              have hcp : wr.cell? ⟨gp, 0, none⟩ = some (.slice Ap p.length cp) := (blk_cell hgp 0).trans rfl
              have hfp := blk_frozen hgp 0
              clear hgp hrp
              go_upto_region 9 with (first
                | ((with_reducible refine gate_builtin (b := .append) (xs := #[.tmp 34, .tmp 36]) rfl ?_); at_builtin; refine Kd.R_append (Kd.int .i64) (w0 := wr) b1 rfl (.tmp 34) (.tmp 36) 31 3 (.int .i64 0) 8 rfl Try.underlying31 info3 rfl (by decide) (by omega) (.slice Ap p.length cp) p ki [.int .i64 ki] (fun _ => True) (fun _ => False) rfl rfl ?aP (fun _ hk => hk.elim) ?aF ?aO ?aB ?aS ?aL ?_; (case aP => exact rfl); (case aF => exact (fun _ _ => trivial)); (case aO => exact HRP.out); (case aB => exact Below.refl _ _); (case aS => exact IV.out.size); (case aL => have := C2.out; omega); intro v1 w1 ho hb hg hat; obtain ⟨A2, cp2, e2, I2⟩ := IV.out.app HGP.out HRP.out ho (IV.out.below.trans (hb.mono IV.out.base)) hg; subst e2; simp only [List.length_append, List.length_cons, List.length_nil] at I2; have I2a := Aside0.mk I2; have G1 := blk_grown HGP.out hg (Kd.R_ne HRP.out HGP.out (by decide)); clear ho hb hg hat I2 hcp hfp; have hcp := blk_cell G1 0; have hfp := blk_frozen G1 0; simp only [List.getElem?_toArray, List.getElem?_cons_zero] at hcp; clear G1))
              generalize w1.setCell ⟨gp, 0, none⟩ (.slice A2 (p.length + 1) cp2) = w2 at I2a ⊢
              clear hcp hfp IV HRP HGP
              go_wp2
              go_loopg [13, 12] 1000 (fun kf v13 v12 w' => ∃ (si : Int) (b : Bool), v13 = .int .i64 si ∧ v12 = .bool b ∧ Aside0 (if b = true then isoFit x y (p ++ [ki]) t2 kf si = some fit else fit = false) ∧ Aside0 (IsoInv w b1 ga gb gd gx gy gp gf go gn n m va vb Ax Ay cx cy x y (p ++ [ki]) none w'))
              case atStart => exact ⟨t1, true, rfl, rfl, H3a, I2a⟩
              case round =>
                clear I2a H3a
                obtain ⟨si, b, rfl, rfl, HA, IV⟩ := hrel
                have H := HA.out
                clear HA
                obtain ⟨A3, c3p, hgp, hrp⟩ := IV.out.hp
                have HRP := Aside0.mk hrp
                have hcp : wr.cell? ⟨gp, 0, none⟩ = some (.slice A3 (p ++ [ki]).length c3p) := (blk_cell hgp 0).trans rfl
                have hfp := blk_frozen hgp 0
                have hcf : wr.cell? ⟨gf, 0, none⟩ = some (.func (.func 128) #[] #[.pointer (some ⟨gp, 0, none⟩), .pointer (some ⟨ga, 0, none⟩), .pointer (some ⟨gd, 0, none⟩), .pointer (some ⟨gb, 0, none⟩), .pointer (some ⟨gx, 0, none⟩), .pointer (some ⟨gy, 0, none⟩), .pointer (some ⟨gf, 0, none⟩)]) := (blk_cell IV.out.hf 0).trans rfl
                have hlc : p.length ≤ c3p := by
                  have h_ := (Kd.R_reads' hrp).2.1
                  simp only [List.length_append, List.length_cons, List.length_nil] at h_
                  omega
                have hrt := Kd.R_take hrp (m := p.length) (by simp)
                rw [List.take_left'  rfl] at hrt
                have HRT := Aside0.mk hrt
                clear hgp hrp hrt
                cases b with
                | false =>
                  simp only [Bool.false_eq_true, if_false] at H
                  subst H
                  have H4b := H4a.out
                  simp only [Bool.false_eq_true, if_false, Option.some.injEq] at H4b
                  subst H4b
                  have H2b := Aside0.mk H2a.out
                  clear H4a H2a
                  go_upto_region 14 with (fail)
                  all_goals
                    go_quiet (fail)
                    go_upto_region 16 with (fail)
                    have IV2 := (IV.out.step (pw_below_drewN (Below.refl _ _) nq)).put (Kd.R_drewN HRT.out nq)
                    generalize (wr.drewN nq).setCell ⟨gp, 0, none⟩ (.slice A3 p.length c3p) = w4 at IV2 ⊢
                    have IV3 := Aside0.mk IV2
                    clear IV2 IV HRT HRP hcp hfp hcf
                    go_wp2
                    go_roundg k1
                    case measure => omega
                    case rel => exact ⟨_, rfl, H2b, IV3⟩
                | true =>
                  simp only [if_true] at H
                  cases gk with
                  | zero => exact absurd H (by simp [isoFit])
                  | succ gk1 =>
                    simp only [isoFit] at H
                    by_cases d1 : si < t2
                    · rw [if_pos d1] at H
                      by_cases d2 : 0 ≤ si
                      case neg => rw [if_neg d2] at H; exact absurd H (by simp)
                      rw [if_pos d2] at H
                      by_cases d3 : si < (x.length : Int)
                      case neg => rw [if_neg d3] at H; exact absurd H (by simp)
                      rw [if_pos d3] at H
                      obtain ⟨mi, H5, H⟩ := Option.bind_eq_some_iff.mp H
                      by_cases d4 : 0 ≤ mi
                      case neg => rw [if_neg d4] at H; exact absurd H (by simp)
                      rw [if_pos d4] at H
                      by_cases d5 : mi < (y.length : Int)
                      case neg => rw [if_neg d5] at H; exact absurd H (by simp)
                      rw [if_pos d5] at H
                      obtain ⟨ax, ex, hxs⟩ := Kd.at_int (Kd.R_reads' IV.out.rx).2.2 si d2 d3
                      obtain ⟨ay, ey, hys⟩ := Kd.at_int (Kd.R_reads' IV.out.ry).2.2 mi d4 d5
                      have hcx : wr.cell? ⟨gx, 0, none⟩ = some (.slice Ax x.length cx) := (blk_cell IV.out.hx 0).trans rfl
                      have hcy : wr.cell? ⟨gy, 0, none⟩ = some (.slice Ay y.length cy) := (blk_cell IV.out.hy 0).trans rfl
                      subst ex ey
                      have HM := Aside0.mk H5
                      have HZ := Aside0.mk H
                      clear H H5 hcf hfp
                      have hrp' := HRP.out
                      simp only [List.length_append, List.length_cons, List.length_nil] at hrp'
                      have QM := Aside0.mk (fun q => moved_q hrp' HM.out q)
                      clear hrp' HM
                      go_upto_region 13 with (fail)
                      go_quiet ((go_at_call 129; (with_reducible exact Calls.quiet_of (QM.out _))))
                      have IV2 := Aside0.mk (IV.out.step (pw_below_drewN (Below.refl _ _) nq))
                      clear QM IV HRT HRP hcp hcx hcy hxs hys
                      go_wp2
                      go_roundg gk1
                      case measure => omega
                      case rel =>
                        refine ⟨_, decide (rd x si = rd y mi), rfl, ?_, ⟨?_⟩, IV2⟩
                        · rfl
                        · by_cases d6 : rd x si = rd y mi
                          · rw [if_pos d6] at HZ
                            simpa [d6] using HZ.out
                          · rw [if_neg d6] at HZ
                            simpa [d6] using HZ.out.symm
                    · rw [if_neg d1] at H
                      injection H with H
                      subst H
                      have H4b := H4a.out
                      rw [if_pos rfl] at H4b
                      obtain ⟨tb, htb⟩ : ∃ t, shl .i64 1 ki = t := ⟨_, rfl⟩
                      rw [htb] at H4b
                      have htbu : IntKind.i64.wrap (2 ^ min ki.toNat 64) = tb := by have h_ : IntKind.i64.wrap (1 * 2 ^ min ki.toNat 64) = tb := htb; rw [Int.one_mul] at h_; exact h_
                      have htbw : wrap64 (2 ^ min ki.toNat 64) = tb := (i64_w _).symm.trans htbu
                      have htbx : IntKind.i64.wrap (1 * 2 ^ min ki.toNat 64) = tb := htb
                      have QR := Aside0.mk (IH.out (p ++ [ki]) (Go.bits .or .i64 used tb) r1)
                      have HZ := Aside0.mk H4b
                      clear H4a H4b htb
                      go_upto_region 14 with (fail)
                      go_still_tail 8, (by kernel_rfl)
                      change wpList _ _ _ _ _ wr.drew
                      have IV5 := Aside0.mk (IV.out.step (below_drew (Below.refl _ _)))
                      generalize wr.drew = w5 at IV5 ⊢
                      clear IV HRT HRP hcp hfp hcf
                      go_upto_region 15 with (go_at_call 128; (refine (QR.out _ IV5.out HZ.out).mono ?_); rintro e w' ⟨rfl, hiv⟩; have IV6 := Aside0.mk hiv; clear hiv)
                      obtain ⟨A6, c6, hgp, hrp⟩ := IV6.out.hp
                      have hcp : w'.cell? ⟨gp, 0, none⟩ = some (.slice A6 (p ++ [ki]).length c6) := (blk_cell hgp 0).trans rfl
                      have hfp := blk_frozen hgp 0
                      have hlc : p.length ≤ c6 := by
                        have h_ := (Kd.R_reads' hrp).2.1
                        simp only [List.length_append, List.length_cons, List.length_nil] at h_
                        omega
                      have hrt := Kd.R_take hrp (m := p.length) (by simp)
                      rw [List.take_left' rfl] at hrt
                      have HRT := Aside0.mk hrt
                      clear hgp hrp hrt
                      go_upto_region 16 with (fail)
                      have IV7' := IV6.out.put HRT.out
                      generalize w'.setCell ⟨gp, 0, none⟩ (.slice A6 p.length c6) = w7 at IV7' ⊢
                      have IV7 := Aside0.mk IV7'
                      clear IV7' IV6 HRT hcp hfp
                      cases r1 with
                      | none =>
                        have H2b := Aside0.mk H2a.out
                        clear H2a
                        go_wp2
                        go_roundg k1
                        case measure => omega
                        case rel => exact ⟨_, rfl, H2b, IV7⟩
                      | some q =>
                        have H2b := H2a.out
                        simp only [Option.some.injEq] at H2b
                        subst H2b
                        go_wp2
                        go_ret
                        exact ⟨rfl, IV7.out⟩
          · rw [if_neg c3] at H
            injection H with H
            subst H
            go_wp2
            go_ret
            exact ⟨rfl, IV.out⟩

end Go.Proofs.Ytkppdmlellmepaa
namespace Go.Proofs.Ytkppdmlellmepaa
open Go.RowKit Go.Proofs.YtkppdmlellmepaaW.PrintWords Go.Proofs.YtkppdmlellmepaaW.PrintLast Go.Proofs.YtkppdmlellmepaaW.PrintMore
open PA

/-- what is known while both ranks are reckoned, in whatever order. -/
structure EachI (W0 : World) (x y : List Int) (b : Nat → Bool) (g6 g7 : Nat) (vx vy : Value) (W : World) : Prop where
  below : Below W0.heap.size W0 W
  rx : b 1 = true → Kd.R (Kd.int .i64) 3 W W0.heap.size (fun _ => True) vx x
  ry : b 3 = true → Kd.R (Kd.int .i64) 3 W W0.heap.size (fun _ => True) vy y
  c6 : b 4 = true → W0.heap.size ≤ g6 ∧ W.heap[g6]? = some (.cells #[if b 6 = true then vx else .slice none 0 0] 31 (0, 0))
  c7 : b 5 = true → W0.heap.size ≤ g7 ∧ W.heap[g7]? = some (.cells #[if b 7 = true then vy else .slice none 0 0] 31 (0, 0))
  ne : b 4 = true → b 5 = true → g6 ≠ g7

namespace EachI
variable {W0 W W1 : World} {x y : List Int} {b : Nat → Bool} {g6 g7 : Nat} {vx vy : Value}

theorem start (W0 : World) (x y : List Int) (vx vy : Value) : EachI W0 x y (fun _ => false) 0 0 vx vy W0.drew :=
  ⟨below_drew (Below.refl _ _), fun h => absurd h (by decide), fun h => absurd h (by decide), fun h => absurd h (by decide), fun h => absurd h (by decide), fun h => absurd h (by decide)⟩

theorem read (h : EachI W0 x y b g6 g7 vx vy W) (i : Nat) (hi : i = 0 ∨ i = 2) : EachI W0 x y (up b i) g6 g7 vx vy W := by
  rcases hi with rfl | rfl <;> exact ⟨h.below, h.rx, h.ry, h.c6, h.c7, h.ne⟩

theorem call1 {v : Value} (h : EachI W0 x y b g6 g7 vx vy W) (h6 : b 6 = false) (hr : Kd.R (Kd.int .i64) 3 W1 W.heap.size (fun _ => True) v x) (hb : Below W.heap.size W W1) : EachI W0 x y (up b 1) g6 g7 v vy W1 :=
  ⟨below_step h.below hb, fun _ => Kd.R_lower hr h.below.size, fun e => Kd.R_below (h.ry e) hb, fun e => ⟨(h.c6 e).1, by
    have := blk_below (h.c6 e).2 hb
    rw [h6] at this
    show W1.heap[g6]? = some (.cells #[if b 6 = true then v else .slice none 0 0] 31 (0, 0))
    rw [h6]; exact this⟩, fun e => ⟨(h.c7 e).1, blk_below (h.c7 e).2 hb⟩, h.ne⟩

theorem call3 {v : Value} (h : EachI W0 x y b g6 g7 vx vy W) (h7 : b 7 = false) (hr : Kd.R (Kd.int .i64) 3 W1 W.heap.size (fun _ => True) v y) (hb : Below W.heap.size W W1) : EachI W0 x y (up b 3) g6 g7 vx v W1 :=
  ⟨below_step h.below hb, fun e => Kd.R_below (h.rx e) hb, fun _ => Kd.R_lower hr h.below.size, fun e => ⟨(h.c6 e).1, blk_below (h.c6 e).2 hb⟩, fun e => ⟨(h.c7 e).1, by
    have := blk_below (h.c7 e).2 hb
    rw [h7] at this
    show W1.heap[g7]? = some (.cells #[if b 7 = true then v else .slice none 0 0] 31 (0, 0))
    rw [h7]; exact this⟩, h.ne⟩

theorem alloc4 {g : Nat} (h : EachI W0 x y b g6 g7 vx vy W) (h6 : b 6 = false) (hg : g = W.heap.size) (hbox : W1.heap[g]? = some (.cells #[.slice none 0 0] 31 (0, 0))) (hb : Below W.heap.size W W1) : EachI W0 x y (up b 4) g g7 vx vy W1 :=
  ⟨below_step h.below hb, fun e => Kd.R_below (h.rx e) hb, fun e => Kd.R_below (h.ry e) hb, fun _ => ⟨by rw [hg]; exact h.below.size, by
    show W1.heap[g]? = some (.cells #[if b 6 = true then vx else .slice none 0 0] 31 (0, 0))
    rw [h6]; exact hbox⟩, fun e => ⟨(h.c7 e).1, blk_below (h.c7 e).2 hb⟩, fun _ e => by have := blk_lt (h.c7 e).2; omega⟩

theorem alloc5 {g : Nat} (h : EachI W0 x y b g6 g7 vx vy W) (h7 : b 7 = false) (hg : g = W.heap.size) (hbox : W1.heap[g]? = some (.cells #[.slice none 0 0] 31 (0, 0))) (hb : Below W.heap.size W W1) : EachI W0 x y (up b 5) g6 g vx vy W1 :=
  ⟨below_step h.below hb, fun e => Kd.R_below (h.rx e) hb, fun e => Kd.R_below (h.ry e) hb, fun e => ⟨(h.c6 e).1, blk_below (h.c6 e).2 hb⟩, fun _ => ⟨by rw [hg]; exact h.below.size, by
    show W1.heap[g]? = some (.cells #[if b 7 = true then vy else .slice none 0 0] 31 (0, 0))
    rw [h7]; exact hbox⟩, fun e _ => by have := blk_lt (h.c6 e).2; omega⟩

theorem put6 (h : EachI W0 x y b g6 g7 vx vy W) (h4 : b 4 = true) : EachI W0 x y (up b 6) g6 g7 vx vy (W.setCell ⟨g6, 0, none⟩ vx) := by
  have h6 := (h.c6 h4).2
  exact ⟨below_set h.below (h.c6 h4).1, fun e => Kd.R_set (h.rx e) h6 (by decide) 0 _, fun e => Kd.R_set (h.ry e) h6 (by decide) 0 _, fun e => ⟨(h.c6 e).1, blk_put h6 0 _ rfl⟩,
    fun e => ⟨(h.c7 e).1, blk_far (h.c7 e).2 (fun e2 => h.ne h4 e e2.symm) _⟩, h.ne⟩

theorem put7 (h : EachI W0 x y b g6 g7 vx vy W) (h5 : b 5 = true) : EachI W0 x y (up b 7) g6 g7 vx vy (W.setCell ⟨g7, 0, none⟩ vy) := by
  have h7 := (h.c7 h5).2
  exact ⟨below_set h.below (h.c7 h5).1, fun e => Kd.R_set (h.rx e) h7 (by decide) 0 _, fun e => Kd.R_set (h.ry e) h7 (by decide) 0 _,
    fun e => ⟨(h.c6 e).1, blk_far (h.c6 e).2 (h.ne e h5) _⟩, fun e => ⟨(h.c7 e).1, blk_put h7 0 _ rfl⟩, h.ne⟩
end EachI

def each_T1 : Bool × List (List Nat × List Nat) := (true, [([], []), ([0], [0]), ([], []), ([2, 1], [2]), ([], []), ([], []), ([4, 1, 3, 0, 1, 4, 5], [1, 4]), ([5, 3, 6, 0, 1, 2, 3, 4, 5, 6], [3, 5])])
def each_B1 : List Nat := [0, 1, 0, 7, 0, 0, 63, 127]
theorem each_tab1 : rtab .any (opsOf Try.f116 1) = each_T1 := by kernel_rfl
theorem each_bits1 : waitsOk each_T1.2 each_B1 = true := by kernel_rfl

/-- what is known when the search begins. -/
structure TwoRanks (W0 : World) (x y : List Int) (g6 g7 : Nat) (vx vy : Value) (W : World) : Prop where
  below : Below W0.heap.size W0 W
  b6 : W.heap[g6]? = some (.cells #[vx] 31 (0, 0))
  b7 : W.heap[g7]? = some (.cells #[vy] 31 (0, 0))
  ne : g6 ≠ g7
  l6 : W0.heap.size ≤ g6
  l7 : W0.heap.size ≤ g7
  rx : Kd.R (Kd.int .i64) 3 W W0.heap.size (fun _ => True) vx x
  ry : Kd.R (Kd.int .i64) 3 W W0.heap.size (fun _ => True) vy y

theorem EachI.all {W0 W : World} {x y : List Int} {b : Nat → Bool} {g6 g7 : Nat} {vx vy : Value} (h : EachI W0 x y b g6 g7 vx vy W) (h1 : b 1 = true) (h3 : b 3 = true) (h4 : b 4 = true) (h5 : b 5 = true) (h6 : b 6 = true) (h7 : b 7 = true) :
    TwoRanks W0 x y g6 g7 vx vy W := by
  have c6 := h.c6 h4
  have c7 := h.c7 h5
  rw [if_pos h6] at c6
  rw [if_pos h7] at c7
  exact ⟨h.below, c6.2, c7.2, h.ne h4 h5, c6.1, c7.1, h.rx h1, h.ry h3⟩

set_option maxRecDepth 100000 in
set_option maxHeartbeats 1600000 in
theorem each_calls (w : World) (go gn : Nat) (n m : Int) (Aa Ab : Option Addr) (ca cb : Nat) (la lb x y : List Int) (res : Option (List Int)) (W : World)
    (hw : Below w.heap.size w W) (lo : w.heap.size ≤ go) (ln : w.heap.size ≤ gn) (ho : W.heap[go]? = some (.cells #[.slice none 0 0] 31 (0, 0))) (hn : W.heap[gn]? = some (.cells #[.bool false] 4 (0, 0)))
    (hra : Kd.C (Kd.int .i64) W Aa la.length la) (hca : la.length ≤ ca) (hrb : Kd.C (Kd.int .i64) W Ab lb.length lb) (hcb : lb.length ≤ cb)
    (hx : same_ranks.f 20000 n la = some x) (hy : same_ranks.f 20000 m lb = some y) (h : isoFrom n m x y 20 [] 0 = some res) :
    Calls Try.prog 116 #[.agg #[.int .i64 n, .slice Aa la.length ca], .agg #[.int .i64 m, .slice Ab lb.length cb], .func (.func 117) #[] #[.pointer (some ⟨go, 0, none⟩), .pointer (some ⟨gn, 0, none⟩)]] W fun e W' =>
      e = .returned (.tuple #[]) ∧ Below w.heap.size w W' ∧ ∃ vo, W'.heap[go]? = some (.cells #[vo] 31 (0, 0)) ∧ W'.heap[gn]? = some (.cells #[.bool res.isSome] 4 (0, 0)) ∧ (res = none → vo = .slice none 0 0) ∧ ∀ r, res = some r → Kd.R (Kd.int .i64) 3 W' w.heap.size (fun _ => True) vo r := by
  have HRA := Aside0.mk hra
  have HCA := Aside0.mk hca
  have HRB := Aside0.mk hrb
  have HCB := Aside0.mk hcb
  have HX := Aside0.mk hx
  have HY := Aside0.mk hy
  have HF := Aside0.mk h
  have HO := Aside0.mk ho
  have HN := Aside0.mk hn
  have HW := Aside0.mk hw
  clear hra hca hrb hcb hx hy h ho hn hw
  go_enter Try.func116, Try.ntmps116
  go_upto_region 1 with (first
    | ((with_reducible refine gate_dst (N := 3) rfl ?_); refine box_event ?hg (N := 3) ?hd (cs := #[.int .i64 n, .slice Aa la.length ca]) (t := 33) ?hr ?_; (case hd => rfl); (case hg => rfl); (case hr => first | (go_simp; done) | (go_simp; rfl)); intro g3 hg3 w1 hbox1 hb1; have B3 := Aside0.mk hbox1; have G3 := Aside0.mk hg3; have HB := Aside0.mk hb1; clear hbox1 hg3 hb1)
    | ((with_reducible refine gate_dst (N := 4) rfl ?_); refine box_event ?hg (N := 4) ?hd (cs := #[.int .i64 m, .slice Ab lb.length cb]) (t := 33) ?hr ?_; (case hd => rfl); (case hg => rfl); (case hr => first | (go_simp; done) | (go_simp; rfl)); intro g4 hg4 w2 hbox2 hb2; have B4 := Aside0.mk hbox2; have G4 := Aside0.mk hg4; (replace HB := Aside0.mk (below_step HB.out hb2)); (replace B3 := Aside0.mk (blk_below B3.out hb2)); clear hbox2 hg4 hb2)
    | ((with_reducible refine gate_dst (N := 5) rfl ?_); refine box_event ?hg (N := 5) ?hd (cs := #[.func (.func 117) #[] #[.pointer (some ⟨go, 0, none⟩), .pointer (some ⟨gn, 0, none⟩)]]) (t := 132) ?hr ?_; (case hd => rfl); (case hg => rfl); (case hr => first | (go_simp; done) | (go_simp; rfl)); intro g5 hg5 w3 hbox3 hb3; have B5 := Aside0.mk hbox3; have G5 := Aside0.mk hg5; (replace HB := Aside0.mk (below_step HB.out hb3)); (replace B3 := Aside0.mk (blk_below B3.out hb3)); (replace B4 := Aside0.mk (blk_below B4.out hb3)); clear hbox3 hg5 hb3))
  go_simp
  refine start_ (n := 8) (S := fun w' => True) (ds := []) #[false, false, false, false, false, false, false, false] (by kernel_rfl) rfl rfl trivial (fun hHeld => ?_); refine with_tabW each_tab1 each_bits1 (fun HT_ HW_ => ?_)
  refine inv_at [0, 1, 2, 3, 4, 5, 6, 7] (fun a0_ b a w' => ∃ (g6 g7 : Nat) (vx vy : Value), a = putSel a0_ b [(0, 10, .agg #[.int .i64 n, .slice Aa la.length ca]), (1, 11, vx), (2, 12, .agg #[.int .i64 m, .slice Ab lb.length cb]), (3, 13, vy), (4, 6, .pointer (some ⟨g6, 0, none⟩)), (5, 7, .pointer (some ⟨g7, 0, none⟩))] ∧ EachI w3 x y b g6 g7 vx vy w') HT_.out HW_.out (by kernel_rfl) (by kernel_rfl) ?_ ?_ ?_
  · exact ⟨0, 0, .bool false, .bool false, by simp only [putSel, Bool.false_eq_true, if_false], EachI.start _ _ _ _ _⟩
  · refine steps_cons ?_ (steps_cons ?_ (steps_cons ?_ (steps_cons ?_ (steps_cons ?_ (steps_cons ?_ (steps_cons ?_ (steps_cons ?_ steps_nil)))))))
    · rintro b a w' ⟨g6, g7, vx, vy, ha, hI⟩ hb_ hon hoff
      refine ⟨_, rfl, fun K hK => ?_⟩
      have e3 : a.tmps[3]? = some (.pointer (some ⟨g3, 0, none⟩)) := by rw [ha]; exact (putSel_off rfl).trans rfl
      replace ha := Aside0.mk ha
      have hcx := blk_below B3.out hI.below
      have hc30 := (blk_cell hcx 0).trans (show _ = some (Value.int .i64 n) from rfl)
      have hc31 := (blk_cell hcx 1).trans (show _ = some (Value.slice Aa la.length ca) from rfl)
      replace hI := Aside0.mk hI
      clear hcx
      refine value_ (w1 := w') (v := .agg #[.int .i64 n, .slice Aa la.length ca]) (by rfl) rfl ?_ ?_
      · go_simp
        try rfl
      refine hK.out _ _ ⟨g6, g7, vx, vy, (by rw [ha.out]; exact putSel_upk 0 hb_ rfl rfl rfl), hI.out.read 0 (.inl rfl)⟩
    · rintro b a w' ⟨g6, g7, vx, vy, ha, hI⟩ hb_ hon hoff
      refine ⟨_, rfl, fun K hK => ?_⟩
      have e10 : a.tmps[10]? = some (.agg #[.int .i64 n, .slice Aa la.length ca]) := by rw [ha]; exact putSel_on (e := (0, 10, .agg #[.int .i64 n, .slice Aa la.length ca])) 0 rfl rfl (hon 0 (by kernel_rfl)) rfl
      replace ha := Aside0.mk ha
      replace hI := Aside0.mk hI
      refine goes_ Try.func86 (by kernel_rfl) rfl #[.agg #[.int .i64 n, .slice Aa la.length ca]] (by rfl) rfl rfl (by simp only [List.map_toArray, List.map_cons, List.map_nil, Act.eval, Array.getD_eq_getD_getElem?, Option.getD_some, e10]) ?_
      with_reducible refine (same_ranks.calls 20000 n Aa ca la x _ ?hC HCA.out HX.out).mono ?_
      case hC => exact Kd.C_below HRA.out (below_step HB.out hI.out.below)
      rintro e w1 ⟨v, rfl, hr, hb⟩
      refine ⟨_, rfl, ?_⟩
      refine hK.out _ _ ⟨g6, g7, v, vy, (by rw [ha.out]; exact putSel_upk 1 hb_ rfl rfl rfl), hI.out.call1 (hoff 6 (by kernel_rfl)) hr hb⟩
    · rintro b a w' ⟨g6, g7, vx, vy, ha, hI⟩ hb_ hon hoff
      refine ⟨_, rfl, fun K hK => ?_⟩
      have e4 : a.tmps[4]? = some (.pointer (some ⟨g4, 0, none⟩)) := by rw [ha]; exact (putSel_off rfl).trans rfl
      replace ha := Aside0.mk ha
      have hcx := blk_below B4.out hI.below
      have hc40 := (blk_cell hcx 0).trans (show _ = some (Value.int .i64 m) from rfl)
      have hc41 := (blk_cell hcx 1).trans (show _ = some (Value.slice Ab lb.length cb) from rfl)
      replace hI := Aside0.mk hI
      clear hcx
      refine value_ (w1 := w') (v := .agg #[.int .i64 m, .slice Ab lb.length cb]) (by rfl) rfl ?_ ?_
      · go_simp
        try rfl
      refine hK.out _ _ ⟨g6, g7, vx, vy, (by rw [ha.out]; exact putSel_upk 2 hb_ rfl rfl rfl), hI.out.read 2 (.inr rfl)⟩
    · rintro b a w' ⟨g6, g7, vx, vy, ha, hI⟩ hb_ hon hoff
      refine ⟨_, rfl, fun K hK => ?_⟩
      have e12 : a.tmps[12]? = some (.agg #[.int .i64 m, .slice Ab lb.length cb]) := by rw [ha]; exact putSel_on (e := (2, 12, .agg #[.int .i64 m, .slice Ab lb.length cb])) 2 rfl rfl (hon 2 (by kernel_rfl)) rfl
      replace ha := Aside0.mk ha
      replace hI := Aside0.mk hI
      refine goes_ Try.func86 (by kernel_rfl) rfl #[.agg #[.int .i64 m, .slice Ab lb.length cb]] (by rfl) rfl rfl (by simp only [List.map_toArray, List.map_cons, List.map_nil, Act.eval, Array.getD_eq_getD_getElem?, Option.getD_some, e12]) ?_
      with_reducible refine (same_ranks.calls 20000 m Ab cb lb y _ ?hC HCB.out HY.out).mono ?_
      case hC => exact Kd.C_below HRB.out (below_step HB.out hI.out.below)
      rintro e w1 ⟨v, rfl, hr, hb⟩
      refine ⟨_, rfl, ?_⟩
      refine hK.out _ _ ⟨g6, g7, vx, v, (by rw [ha.out]; exact putSel_upk 3 hb_ rfl rfl rfl), hI.out.call3 (hoff 7 (by kernel_rfl)) hr hb⟩
    · rintro b a w' ⟨g6, g7, vx, vy, ha, hI⟩ hb_ hon hoff
      refine ⟨_, rfl, fun K hK => ?_⟩
      replace ha := Aside0.mk ha
      replace hI := Aside0.mk hI
      refine box_step ?hg (N := 6) ?hd (cs := #[.slice none 0 0]) (t := 31) ?hr ?_
      case hd => rfl
      case hg => rfl
      case hr => first | (go_simp; done) | (go_simp; rfl)
      intro g hg w1 hbox hb
      refine hK.out _ _ ⟨g, g7, vx, vy, (by rw [ha.out]; exact putSel_upk 4 hb_ rfl rfl rfl), hI.out.alloc4 (hoff 6 (by kernel_rfl)) hg hbox hb⟩
    · rintro b a w' ⟨g6, g7, vx, vy, ha, hI⟩ hb_ hon hoff
      refine ⟨_, rfl, fun K hK => ?_⟩
      replace ha := Aside0.mk ha
      replace hI := Aside0.mk hI
      refine box_step ?hg (N := 7) ?hd (cs := #[.slice none 0 0]) (t := 31) ?hr ?_
      case hd => rfl
      case hg => rfl
      case hr => first | (go_simp; done) | (go_simp; rfl)
      intro g hg w1 hbox hb
      refine hK.out _ _ ⟨g6, g, vx, vy, (by rw [ha.out]; exact putSel_upk 5 hb_ rfl rfl rfl), hI.out.alloc5 (hoff 7 (by kernel_rfl)) hg hbox hb⟩
    · rintro b a w' ⟨g6, g7, vx, vy, ha, hI⟩ hb_ hon hoff
      refine ⟨_, rfl, fun K hK => ?_⟩
      have h4 := hon 4 (by kernel_rfl)
      obtain ⟨Ax, cx, ex⟩ := Kd.R_slice (hI.rx (hon 1 (by kernel_rfl)))
      subst ex
      have e6 : a.tmps[6]? = some (.pointer (some ⟨g6, 0, none⟩)) := by rw [ha]; exact putSel_on (e := (4, 6, .pointer (some ⟨g6, 0, none⟩))) 4 rfl rfl h4 rfl
      have e11 : a.tmps[11]? = some (.slice Ax x.length cx) := by rw [ha]; exact putSel_on (e := (1, 11, .slice Ax x.length cx)) 1 rfl rfl (hon 1 (by kernel_rfl)) rfl
      replace ha := Aside0.mk ha
      have hcx := (hI.c6 h4).2
      rw [hb_] at hcx
      have hc60 := (blk_cell hcx 0).trans (show _ = some (Value.slice none 0 0) from rfl)
      have hf60 := blk_frozen hcx 0
      replace hI := Aside0.mk hI
      clear hcx
      refine skip_ (w1 := w'.setCell ⟨g6, 0, none⟩ (.slice Ax x.length cx)) (by rfl) rfl ?_ ?_
      · go_simp
        try rfl
      refine hK.out _ _ ⟨g6, g7, _, vy, (by rw [ha.out]; exact putSel_none (v := undef) rfl), hI.out.put6 h4⟩
    · rintro b a w' ⟨g6, g7, vx, vy, ha, hI⟩ hb_ hon hoff
      refine ⟨_, rfl, fun K hK => ?_⟩
      have h5 := hon 5 (by kernel_rfl)
      obtain ⟨Ay, cy, ey⟩ := Kd.R_slice (hI.ry (hon 3 (by kernel_rfl)))
      subst ey
      have e7 : a.tmps[7]? = some (.pointer (some ⟨g7, 0, none⟩)) := by rw [ha]; exact putSel_on (e := (5, 7, .pointer (some ⟨g7, 0, none⟩))) 5 rfl rfl h5 rfl
      have e13 : a.tmps[13]? = some (.slice Ay y.length cy) := by rw [ha]; exact putSel_on (e := (3, 13, .slice Ay y.length cy)) 3 rfl rfl (hon 3 (by kernel_rfl)) rfl
      replace ha := Aside0.mk ha
      have hcx := (hI.c7 h5).2
      rw [hb_] at hcx
      have hc70 := (blk_cell hcx 0).trans (show _ = some (Value.slice none 0 0) from rfl)
      have hf70 := blk_frozen hcx 0
      replace hI := Aside0.mk hI
      clear hcx
      refine skip_ (w1 := w'.setCell ⟨g7, 0, none⟩ (.slice Ay y.length cy)) (by rfl) rfl ?_ ?_
      · go_simp
        try rfl
      refine hK.out _ _ ⟨g6, g7, vx, _, (by rw [ha.out]; exact putSel_none (v := undef) rfl), hI.out.put7 h5⟩
  · rintro b a w4 hall ⟨g6, g7, vx, vy, ha, hI⟩
    have hb0_ := hall 0 (by kernel_rfl)
    have hb1_ := hall 1 (by kernel_rfl)
    have hb2_ := hall 2 (by kernel_rfl)
    have hb3_ := hall 3 (by kernel_rfl)
    have hb4_ := hall 4 (by kernel_rfl)
    have hb5_ := hall 5 (by kernel_rfl)
    have hT := hI.all hb1_ hb3_ hb4_ hb5_ (hall 6 (by kernel_rfl)) (hall 7 (by kernel_rfl))
    subst ha
    simp only [putSel, hb0_, hb1_, hb2_, hb3_, hb4_, hb5_, if_true, Act.put, List.setIfInBounds_toArray, List.set_cons_zero, List.set_cons_succ]
    clear hall hb0_ hb1_ hb2_ hb3_ hb4_ hb5_ hI b
    obtain ⟨Ax, cx, ex⟩ := Kd.R_slice hT.rx
    subst ex
    obtain ⟨Ay, cy, ey⟩ := Kd.R_slice hT.ry
    subst ey
    have HT := Aside0.mk hT
    clear hT
    go_upto_region 4 with (first
      | ((with_reducible refine gate_dst (N := 8) rfl ?_); refine box_event ?hg (N := 8) ?hd (cs := #[.slice none 0 0]) (t := 31) ?hr ?_; (case hd => rfl); (case hg => rfl); (case hr => first | (go_simp; done) | (go_simp; rfl)); intro g8 hg8 w5 hbox5 hb5; have B8 := Aside0.mk hbox5; have G8 := Aside0.mk hg8; have HB5 := Aside0.mk hb5; clear hbox5 hg8 hb5)
      | ((with_reducible refine gate_dst (N := 9) rfl ?_); refine box_event ?hg (N := 9) ?hd (cs := #[.nilFunc]) (t := 69) ?hr ?_; (case hd => rfl); (case hg => rfl); (case hr => first | (go_simp; done) | (go_simp; rfl)); intro g9 hg9 w6 hbox6 hb6; have B9 := Aside0.mk hbox6; have G9 := Aside0.mk hg9; have HB6 := Aside0.mk hb6; clear hbox6 hg9 hb6))
    have HI : Aside0 (IsoInv w w4.heap.size g3 g4 g5 g6 g7 g8 g9 go gn n m (.slice Aa la.length ca) (.slice Ab lb.length cb) Ax Ay cx cy x y [] none (w6.setCell ⟨g9, 0, none⟩ (.func (.func 128) #[] #[.pointer (some ⟨g8, 0, none⟩), .pointer (some ⟨g3, 0, none⟩), .pointer (some ⟨g5, 0, none⟩), .pointer (some ⟨g4, 0, none⟩), .pointer (some ⟨g6, 0, none⟩), .pointer (some ⟨g7, 0, none⟩), .pointer (some ⟨g9, 0, none⟩)]))) := by
      have hT := HT.out
      have b46 : Below w4.heap.size w4 w6 := below_step HB5.out HB6.out
      have bW4 : Below W.heap.size W w4 := below_step HB.out hT.below
      have bW6 := below_step bW4 b46
      have b36 := below_step hT.below b46
      have s1 := HW.out.size
      have s2 := HB.out.size
      have s3 := hT.below.size
      have s4 := HB5.out.size
      have s5 := HB6.out.size
      have l6 := hT.l6
      have l7 := hT.l7
      have t6 := blk_lt hT.b6
      have t7 := blk_lt hT.b7
      have tgo := blk_lt HO.out
      have tgn := blk_lt HN.out
      have t8 := blk_lt B8.out
      have e8 := G8.out
      have e9 := G9.out
      have h9 := B9.out
      have hrx : Kd.R (Kd.int .i64) 3 w6 w.heap.size (fun k => k < w4.heap.size) (.slice Ax x.length cx) x := Kd.R_below (Kd.R_mono (Kd.R_bound (Kd.R_lower hT.rx (by omega))) (fun _ h => h.2.2.1)) b46
      have hry : Kd.R (Kd.int .i64) 3 w6 w.heap.size (fun k => k < w4.heap.size) (.slice Ay y.length cy) y := Kd.R_below (Kd.R_mono (Kd.R_bound (Kd.R_lower hT.ry (by omega))) (fun _ h => h.2.2.1)) b46
      exact ⟨⟨below_set (below_step HW.out bW6) (by omega), by omega, by rw [World.size_setCell]; omega, by omega, lo, ln, by omega, by omega, by omega, by omega, by omega,
        blk_far (blk_below B3.out b36) (blk_other (blk_below B3.out b36) h9 (by decide)) _, blk_far (blk_below B4.out b36) (blk_other (blk_below B4.out b36) h9 (by decide)) _, blk_far (blk_below B5.out b36) (blk_other (blk_below B5.out b36) h9 (by decide)) _,
        blk_far (blk_below hT.b6 b46) (show g6 ≠ g9 by omega) _, blk_far (blk_below hT.b7 b46) (show g7 ≠ g9 by omega) _, blk_put h9 0 _ rfl,
        Kd.R_set hrx h9 (by decide) 0 _, Kd.R_set hry h9 (by decide) 0 _,
        ⟨none, 0, blk_far (blk_below B8.out HB6.out) (show g8 ≠ g9 by omega) _, Kd.R_nil _ _ _ _ _⟩,
        ⟨.slice none 0 0, blk_far (blk_below HO.out bW6) (show go ≠ g9 by omega) _, blk_far (blk_below HN.out bW6) (show gn ≠ g9 by omega) _, fun _ => rfl, fun r e => absurd e (by simp)⟩⟩⟩
    have hc9 : w6.cell? ⟨g9, 0, none⟩ = some .nilFunc := (blk_cell B9.out 0).trans rfl
    have hf9 := blk_frozen B9.out 0
    have hsz : w.heap.size ≤ w4.heap.size := HI.out.base
    clear B3 B4 B5 B8 B9 HO HN HRA HRB HCA HCB HX HY HT HB5 HB6 G3 G4 G5 G8 G9 hHeld HT_ HW_
    go_wp2_with (go_at_call 128; (with_reducible refine (isoFrom_calls w w4.heap.size g3 g4 g5 g6 g7 g8 g9 go gn n m _ _ Ax Ay cx cy x y 20 [] 0 res _ HI.out HF.out).mono ?_); rintro e w7 ⟨rfl, hI7⟩; have HI7 := Aside0.mk hI7; clear hI7)
    go_end0
    obtain ⟨vo, h1, h2, h3, h4⟩ := HI7.out.ho
    exact ⟨rfl, HI7.out.below, vo, h1, h2, h3, fun r e => Kd.R_lower (h4 r e) hsz⟩
end Go.Proofs.Ytkppdmlellmepaa
namespace Go.Proofs.Ytkppdmlellmepaa
open Go.RowKit Go.Proofs.YtkppdmlellmepaaW.PrintWords Go.Proofs.YtkppdmlellmepaaW.PrintLast Go.Proofs.YtkppdmlellmepaaW.PrintMore
open PA

def iso_T1 : Bool × List (List Nat × List Nat) := (true, [([], []), ([0], [0]), ([], []), ([2, 1], [2]), ([1, 3, 0, 1], [1]), ([3, 4, 0, 1, 2, 3, 4], [3])])
def iso_B1 : List Nat := [0, 1, 0, 7, 15, 31]
theorem iso_tab1 : rtab .any (opsOf Try.f89 1) = iso_T1 := by kernel_rfl
theorem iso_bits1 : waitsOk iso_T1.2 iso_B1 = true := by kernel_rfl

set_option maxRecDepth 100000 in
set_option maxHeartbeats 1600000 in
theorem Ext.Isomorphic.calls (a0_0 : Int) (A0_1 : Option Addr) (c0_1 : Nat) (l0_1 : List Int) (a1_0 : Int) (A1_1 : Option Addr) (c1_1 : Nat) (l1_1 : List Int) (r1 : List Int) (r2 : Int) (w : World) (hr0_1 : Kd.C (Kd.int .i64) w A0_1 l0_1.length l0_1) (hc0_1 : l0_1.length ≤ c0_1) (hr1_1 : Kd.C (Kd.int .i64) w A1_1 l1_1.length l1_1) (hc1_1 : l1_1.length ≤ c1_1) (h : Ext.Isomorphic.f a0_0 l0_1 a1_0 l1_1 = some (r1, r2)) :
    Calls Try.prog 89 #[.agg #[.int .i64 a0_0, .slice A0_1 l0_1.length c0_1], .agg #[.int .i64 a1_0, .slice A1_1 l1_1.length c1_1]] w fun e w' => ∃ v1_ : Value, e = .returned (.tuple #[v1_, .int .i64 r2]) ∧ Kd.R (Kd.int .i64) 3 w' w.heap.size (fun _ => True) v1_ r1 ∧ Below w.heap.size w w' := by
  have HRA := Aside0.mk hr0_1
  have HCA := Aside0.mk hc0_1
  have HRB := Aside0.mk hr1_1
  have HCB := Aside0.mk hc1_1
  unfold Ext.Isomorphic.f at h
  obtain ⟨e, A1, H⟩ := Option.bind_eq_some_iff.mp h
  obtain ⟨f, A2, H2⟩ := Option.bind_eq_some_iff.mp H
  have HE := Aside0.mk A1
  have HF := Aside0.mk A2
  have HH := Aside0.mk H2
  clear hr0_1 hc0_1 hr1_1 hc1_1 h A1 A2 H H2
  go_enter Try.func89, Try.ntmps89
  go_upto_region 1 with (first
    | ((with_reducible refine gate_dst (N := 2) rfl ?_); refine box_event ?hg (N := 2) ?hd (cs := #[.int .i64 a0_0, .slice A0_1 l0_1.length c0_1]) (t := 33) ?hr ?_; (case hd => rfl); (case hg => rfl); (case hr => first | (go_simp; done) | (go_simp; rfl)); intro g2 hg2 w1 hbox1 hb1; have B2 := Aside0.mk hbox1; have HB := Aside0.mk hb1; clear hbox1 hg2 hb1)
    | ((with_reducible refine gate_dst (N := 3) rfl ?_); refine box_event ?hg (N := 3) ?hd (cs := #[.int .i64 a1_0, .slice A1_1 l1_1.length c1_1]) (t := 33) ?hr ?_; (case hd => rfl); (case hg => rfl); (case hr => first | (go_simp; done) | (go_simp; rfl)); intro g3 hg3 w2 hbox2 hb2; have B3 := Aside0.mk hbox2; (replace HB := Aside0.mk (below_step HB.out hb2)); (replace B2 := Aside0.mk (blk_below B2.out hb2)); clear hbox2 hg3 hb2))
  go_simp
  refine start_ (n := 6) (S := fun w' => True) (ds := []) #[false, false, false, false, false, false] (by kernel_rfl) rfl rfl trivial (fun hHeld => ?_); refine with_tabW iso_tab1 iso_bits1 (fun HT_ HW_ => ?_)
  refine inv_at [0, 1, 2, 3, 4, 5] (fun a0_ b a w' => a = putSel a0_ b [(0, 10, .agg #[.int .i64 a0_0, .slice A0_1 l0_1.length c0_1]), (1, 11, .int .i64 e), (2, 12, .agg #[.int .i64 a1_0, .slice A1_1 l1_1.length c1_1]), (3, 13, .int .i64 f), (4, 6, .int .i64 e), (5, 7, .int .i64 f)] ∧ Below w2.heap.size w2 w') HT_.out HW_.out (by kernel_rfl) (by kernel_rfl) ?_ ?_ ?_
  · exact ⟨by simp only [putSel, Bool.false_eq_true, if_false], below_drew (Below.refl _ _)⟩
  · refine steps_cons ?_ (steps_cons ?_ (steps_cons ?_ (steps_cons ?_ (steps_cons ?_ (steps_cons ?_ steps_nil)))))
    · rintro b a w' ⟨ha, hI⟩ hb_ hon hoff
      refine ⟨_, rfl, fun K hK => ?_⟩
      have e2 : a.tmps[2]? = some (.pointer (some ⟨g2, 0, none⟩)) := by rw [ha]; exact (putSel_off rfl).trans rfl
      replace ha := Aside0.mk ha
      have hcx := blk_below B2.out hI
      have hc20 := (blk_cell hcx 0).trans (show _ = some (Value.int .i64 a0_0) from rfl)
      have hc21 := (blk_cell hcx 1).trans (show _ = some (Value.slice A0_1 l0_1.length c0_1) from rfl)
      replace hI := Aside0.mk hI
      clear hcx
      refine value_ (w1 := w') (v := .agg #[.int .i64 a0_0, .slice A0_1 l0_1.length c0_1]) (by rfl) rfl ?_ ?_
      · go_simp
        try rfl
      refine hK.out _ _ ⟨(by rw [ha.out]; exact putSel_upk 0 hb_ rfl rfl rfl), hI.out⟩
    · rintro b a w' ⟨ha, hI⟩ hb_ hon hoff
      refine ⟨_, rfl, fun K hK => ?_⟩
      have e10 : a.tmps[10]? = some (.agg #[.int .i64 a0_0, .slice A0_1 l0_1.length c0_1]) := by rw [ha]; exact putSel_on (e := (0, 10, .agg #[.int .i64 a0_0, .slice A0_1 l0_1.length c0_1])) 0 rfl rfl (hon 0 (by kernel_rfl)) rfl
      replace ha := Aside0.mk ha
      replace hI := Aside0.mk hI
      refine goes_ Try.func25 (by kernel_rfl) rfl #[.agg #[.int .i64 a0_0, .slice A0_1 l0_1.length c0_1]] (by rfl) rfl rfl (by simp only [List.map_toArray, List.map_cons, List.map_nil, Act.eval, Array.getD_eq_getD_getElem?, Option.getD_some, e10]) ?_
      with_reducible refine (axioms_Check.calls 20000 a0_0 A0_1 c0_1 l0_1 e _ ?hC HCA.out HE.out).mono ?_
      case hC => exact Kd.C_below HRA.out (below_step HB.out hI.out)
      rintro e_ w1_ ⟨rfl, hb⟩
      refine ⟨_, rfl, ?_⟩
      refine hK.out _ _ ⟨(by rw [ha.out]; exact putSel_upk 1 hb_ rfl rfl rfl), below_step hI.out hb⟩
    · rintro b a w' ⟨ha, hI⟩ hb_ hon hoff
      refine ⟨_, rfl, fun K hK => ?_⟩
      have e3 : a.tmps[3]? = some (.pointer (some ⟨g3, 0, none⟩)) := by rw [ha]; exact (putSel_off rfl).trans rfl
      replace ha := Aside0.mk ha
      have hcx := blk_below B3.out hI
      have hc30 := (blk_cell hcx 0).trans (show _ = some (Value.int .i64 a1_0) from rfl)
      have hc31 := (blk_cell hcx 1).trans (show _ = some (Value.slice A1_1 l1_1.length c1_1) from rfl)
      replace hI := Aside0.mk hI
      clear hcx
      refine value_ (w1 := w') (v := .agg #[.int .i64 a1_0, .slice A1_1 l1_1.length c1_1]) (by rfl) rfl ?_ ?_
      · go_simp
        try rfl
      refine hK.out _ _ ⟨(by rw [ha.out]; exact putSel_upk 2 hb_ rfl rfl rfl), hI.out⟩
    · rintro b a w' ⟨ha, hI⟩ hb_ hon hoff
      refine ⟨_, rfl, fun K hK => ?_⟩
      have e12 : a.tmps[12]? = some (.agg #[.int .i64 a1_0, .slice A1_1 l1_1.length c1_1]) := by rw [ha]; exact putSel_on (e := (2, 12, .agg #[.int .i64 a1_0, .slice A1_1 l1_1.length c1_1])) 2 rfl rfl (hon 2 (by kernel_rfl)) rfl
      replace ha := Aside0.mk ha
      replace hI := Aside0.mk hI
      refine goes_ Try.func25 (by kernel_rfl) rfl #[.agg #[.int .i64 a1_0, .slice A1_1 l1_1.length c1_1]] (by rfl) rfl rfl (by simp only [List.map_toArray, List.map_cons, List.map_nil, Act.eval, Array.getD_eq_getD_getElem?, Option.getD_some, e12]) ?_
      with_reducible refine (axioms_Check.calls 20000 a1_0 A1_1 c1_1 l1_1 f _ ?hC HCB.out HF.out).mono ?_
      case hC => exact Kd.C_below HRB.out (below_step HB.out hI.out)
      rintro e_ w1_ ⟨rfl, hb⟩
      refine ⟨_, rfl, ?_⟩
      refine hK.out _ _ ⟨(by rw [ha.out]; exact putSel_upk 3 hb_ rfl rfl rfl), below_step hI.out hb⟩
    · rintro b a w' ⟨ha, hI⟩ hb_ hon hoff
      refine ⟨_, rfl, fun K hK => ?_⟩
      have e11 : a.tmps[11]? = some (.int .i64 e) := by rw [ha]; exact putSel_on (e := (1, 11, .int .i64 e)) 1 rfl rfl (hon 1 (by kernel_rfl)) rfl
      replace ha := Aside0.mk ha
      replace hI := Aside0.mk hI
      refine value_ (w1 := w') (v := .int .i64 e) (by rfl) rfl ?_ ?_
      · go_simp
        try rfl
      refine hK.out _ _ ⟨(by rw [ha.out]; exact putSel_upk 4 hb_ rfl rfl rfl), hI.out⟩
    · rintro b a w' ⟨ha, hI⟩ hb_ hon hoff
      refine ⟨_, rfl, fun K hK => ?_⟩
      have e13 : a.tmps[13]? = some (.int .i64 f) := by rw [ha]; exact putSel_on (e := (3, 13, .int .i64 f)) 3 rfl rfl (hon 3 (by kernel_rfl)) rfl
      replace ha := Aside0.mk ha
      replace hI := Aside0.mk hI
      refine value_ (w1 := w') (v := .int .i64 f) (by rfl) rfl ?_ ?_
      · go_simp
        try rfl
      refine hK.out _ _ ⟨(by rw [ha.out]; exact putSel_upk 5 hb_ rfl rfl rfl), hI.out⟩
  · rintro b a w4 hall ⟨ha, hI⟩
    have hb0_ := hall 0 (by kernel_rfl)
    have hb1_ := hall 1 (by kernel_rfl)
    have hb2_ := hall 2 (by kernel_rfl)
    have hb3_ := hall 3 (by kernel_rfl)
    have hb4_ := hall 4 (by kernel_rfl)
    have hb5_ := hall 5 (by kernel_rfl)
    subst ha
    simp only [putSel, hb0_, hb1_, hb2_, hb3_, hb4_, hb5_, if_true, Act.put, List.setIfInBounds_toArray, List.set_cons_zero, List.set_cons_succ]
    clear hall hb0_ hb1_ hb2_ hb3_ hb4_ hb5_ b
    have B2' := Aside0.mk (blk_below B2.out hI)
    have B3' := Aside0.mk (blk_below B3.out hI)
    have HBW := Aside0.mk (below_step HB.out hI)
    clear B2 B3 HB hI hHeld HT_ HW_ HE HF
    have H := HH.out
    clear HH
    by_cases ce : e = 0
    case neg =>
      rw [if_pos ce] at H
      simp only [Option.some.injEq, Prod.mk.injEq] at H
      obtain ⟨rfl, rfl⟩ := H
      have hb0 : (e != 0) = true := bne_iff_ne.2 ce
      clear ce
      go_wp2
      go_ret2
      exact ⟨_, rfl, Kd.R_nil _ _ _ _ _, HBW.out⟩
    case pos =>
      rw [if_neg (by simpa using ce)] at H
      have hb0 : (e != 0) = false := by simpa using ce
      clear ce
      by_cases cf : f = 0
      case neg =>
        rw [if_pos cf] at H
        simp only [Option.some.injEq, Prod.mk.injEq] at H
        obtain ⟨rfl, rfl⟩ := H
        have hb1 : (f != 0) = true := bne_iff_ne.2 cf
        clear cf
        go_wp2
        go_ret2
        exact ⟨_, rfl, Kd.R_nil _ _ _ _ _, HBW.out⟩
      case pos =>
        rw [if_neg (by simpa using cf)] at H
        have hb1 : (f != 0) = false := by simpa using cf
        clear cf
        have HH := Aside0.mk H
        clear H
        go_upto_region 8 with (first
          | ((with_reducible refine gate_dst (N := 8) rfl ?_); refine box_event ?hg (N := 8) ?hd (cs := #[.slice none 0 0]) (t := 31) ?hr ?_; (case hd => rfl); (case hg => rfl); (case hr => first | (go_simp; done) | (go_simp; rfl)); intro g8 hg8 w5 hbox5 hb5; have B8 := Aside0.mk hbox5; have G8 := Aside0.mk hg8; have HB5 := Aside0.mk hb5; clear hbox5 hg8 hb5)
          | ((with_reducible refine gate_dst (N := 9) rfl ?_); refine box_event ?hg (N := 9) ?hd (cs := #[.bool false]) (t := 4) ?hr ?_; (case hd => rfl); (case hg => rfl); (case hr => first | (go_simp; done) | (go_simp; rfl)); intro g9 hg9 w6 hbox6 hb6; have B9 := Aside0.mk hbox6; have G9 := Aside0.mk hg9; have HB6 := Aside0.mk hb6; have hc9 : w6.cell? ⟨g9, 0, none⟩ = some (.bool false) := (blk_cell hbox6 0).trans rfl; have hf9 := blk_frozen hbox6 0; clear hbox6 hg9 hb6))
        have F : Aside0 (Below w.heap.size w (w6.setCell ⟨g9, 0, none⟩ (.bool false)) ∧ w.heap.size ≤ g8 ∧ w.heap.size ≤ g9 ∧ (w6.setCell ⟨g9, 0, none⟩ (.bool false)).heap[g2]? = some (.cells #[.int .i64 a0_0, .slice A0_1 l0_1.length c0_1] 33 (0, 0)) ∧ (w6.setCell ⟨g9, 0, none⟩ (.bool false)).heap[g3]? = some (.cells #[.int .i64 a1_0, .slice A1_1 l1_1.length c1_1] 33 (0, 0)) ∧
            (w6.setCell ⟨g9, 0, none⟩ (.bool false)).heap[g8]? = some (.cells #[.slice none 0 0] 31 (0, 0)) ∧ (w6.setCell ⟨g9, 0, none⟩ (.bool false)).heap[g9]? = some (.cells #[.bool false] 4 (0, 0))) := by
          have b46 : Below w4.heap.size w4 w6 := below_step HB5.out HB6.out
          have s1 := HBW.out.size
          have s4 := HB5.out.size
          have e8 := G8.out
          have e9 := G9.out
          have h9 := B9.out
          have k2 := blk_below B2'.out b46
          have k3 := blk_below B3'.out b46
          have k8 := blk_below B8.out HB6.out
          exact ⟨below_set (below_step HBW.out b46) (by omega), by omega, by omega, blk_far k2 (blk_other k2 h9 (by decide)) _, blk_far k3 (blk_other k3 h9 (by decide)) _, blk_far k8 (blk_other k8 h9 (by decide)) _, blk_put h9 0 _ rfl⟩
        clear B2' B3' HBW B8 G8 HB5 B9 G9 HB6
        generalize (w6.setCell ⟨g9, 0, none⟩ (.bool false)) = w7 at *
        clear hc9 hf9
        have hc20 : w7.cell? ⟨g2, 0, none⟩ = some (.int .i64 a0_0) := (blk_cell F.out.2.2.2.1 0).trans rfl
        have hc21 : w7.cell? ⟨g2, 1, none⟩ = some (.slice A0_1 l0_1.length c0_1) := (blk_cell F.out.2.2.2.1 1).trans rfl
        have hc30 : w7.cell? ⟨g3, 0, none⟩ = some (.int .i64 a1_0) := (blk_cell F.out.2.2.2.2.1 0).trans rfl
        have hc31 : w7.cell? ⟨g3, 1, none⟩ = some (.slice A1_1 l1_1.length c1_1) := (blk_cell F.out.2.2.2.2.1 1).trans rfl
        have hc80 : w7.cell? ⟨g8, 0, none⟩ = some (.slice none 0 0) := (blk_cell F.out.2.2.2.2.2.1 0).trans rfl
        have hc90 : w7.cell? ⟨g9, 0, none⟩ = some (.bool false) := (blk_cell F.out.2.2.2.2.2.2 0).trans rfl
        have H := HH.out
        clear HH
        by_cases cn : a0_0 = a1_0
        case neg =>
          rw [if_neg (fun h => cn h.1)] at H
          simp only [Option.some.injEq, Prod.mk.injEq] at H
          obtain ⟨rfl, rfl⟩ := H
          have hbn : (a0_0 == a1_0) = false := beq_eq_false_iff_ne.2 cn
          clear cn
          go_wp2
          go_ret2
          exact ⟨_, rfl, Kd.R_nil _ _ _ _ _, F.out.1⟩
        case pos =>
          have hbn : (a0_0 == a1_0) = true := beq_iff_eq.2 cn
          by_cases cl : l0_1.length = l1_1.length
          case neg =>
            rw [if_neg (fun h => cl h.2)] at H
            simp only [Option.some.injEq, Prod.mk.injEq] at H
            obtain ⟨rfl, rfl⟩ := H
            have hbl : ((l0_1.length : Int) == (l1_1.length : Int)) = false := beq_eq_false_iff_ne.2 (by omega)
            have hbl2 : (l0_1.length == l1_1.length) = false := beq_eq_false_iff_ne.2 cl
            clear cl cn
            go_wp2
            go_ret2
            exact ⟨_, rfl, Kd.R_nil _ _ _ _ _, F.out.1⟩
          case pos =>
            rw [if_pos ⟨cn, cl⟩] at H
            obtain ⟨x, A1, H⟩ := Option.bind_eq_some_iff.mp H
            obtain ⟨y, A2, H⟩ := Option.bind_eq_some_iff.mp H
            obtain ⟨res, A3, H⟩ := Option.bind_eq_some_iff.mp H
            have HX := Aside0.mk A1
            have HY := Aside0.mk A2
            have HZ := Aside0.mk A3
            have hbl : ((l0_1.length : Int) == (l1_1.length : Int)) = true := beq_iff_eq.2 (by omega)
            have hbl2 : (l0_1.length == l1_1.length) = true := beq_iff_eq.2 cl
            clear cl cn A1 A2 A3
            cases res with
            | none =>
              simp only [Option.some.injEq, Prod.mk.injEq] at H
              obtain ⟨rfl, rfl⟩ := H
              go_wp2_with (go_at_call 116; (with_reducible refine (each_calls w g8 g9 a0_0 a1_0 A0_1 A1_1 c0_1 c1_1 l0_1 l1_1 x y none w7 F.out.1 F.out.2.1 F.out.2.2.1 F.out.2.2.2.2.2.1 F.out.2.2.2.2.2.2 (Kd.C_below HRA.out F.out.1) HCA.out (Kd.C_below HRB.out F.out.1) HCB.out HX.out HY.out HZ.out).mono ?_); rintro e w8 ⟨rfl, hb8, vo, h8, h9, hno, hso⟩; have hd8 : w8.cell? ⟨g8, 0, none⟩ = some vo := (blk_cell h8 0).trans rfl; have hd9 : w8.cell? ⟨g9, 0, none⟩ = some (.bool false) := (blk_cell h9 0).trans rfl; have HB8 := Aside0.mk hb8; have HSO := Aside0.mk hso; clear hb8 h8 h9 hno hso)
              go_ret2
              exact ⟨_, rfl, Kd.R_nil _ _ _ _ _, HB8.out⟩
            | some p =>
              simp only [Option.some.injEq, Prod.mk.injEq] at H
              obtain ⟨rfl, rfl⟩ := H
              go_wp2_with (go_at_call 116; (with_reducible refine (each_calls w g8 g9 a0_0 a1_0 A0_1 A1_1 c0_1 c1_1 l0_1 l1_1 x y (some p) w7 F.out.1 F.out.2.1 F.out.2.2.1 F.out.2.2.2.2.2.1 F.out.2.2.2.2.2.2 (Kd.C_below HRA.out F.out.1) HCA.out (Kd.C_below HRB.out F.out.1) HCB.out HX.out HY.out HZ.out).mono ?_); rintro e w8 ⟨rfl, hb8, vo, h8, h9, hno, hso⟩; have hd8 : w8.cell? ⟨g8, 0, none⟩ = some vo := (blk_cell h8 0).trans rfl; have hd9 : w8.cell? ⟨g9, 0, none⟩ = some (.bool true) := (blk_cell h9 0).trans rfl; have HB8 := Aside0.mk hb8; have HSO := Aside0.mk hso; clear hb8 h8 h9 hno hso)
              go_ret2
              exact ⟨_, rfl, HSO.out _ rfl, HB8.out⟩
end Go.Proofs.Ytkppdmlellmepaa
