/-
  Plain Lean, no program in sight: a closure with the exchange of Steinitz makes a matroid, and its ranks tell the closure.
-/
import Derived.Test.YtkppdmlellmepaaMatB
namespace Go.Proofs.Ytkppdmlellmepaa.Mat

/-- What hangs on a set's elements. -/
structure Closure (cl : Nat → Nat → Prop) : Prop where
  ext : ∀ s e, s.testBit e = true → cl s e
  idem : ∀ s t e, (∀ f, t.testBit f = true → cl s f) → cl t e → cl s e
  exch : ∀ s e f, cl (s ||| one f) e → ¬ cl s e → cl (s ||| one e) f

/-- no element hangs on the others. -/
def Free (n : Nat) (cl : Nat → Nat → Prop) (s : Nat) : Prop := s < 2 ^ n ∧ ∀ e, s.testBit e = true → ¬ cl (dif s (one e)) e

namespace Closure
variable {cl : Nat → Nat → Prop} {n : Nat}

theorem mono (h : Closure cl) {s t e : Nat} (hst : Sub s t) (hs : cl s e) : cl t e :=
  h.idem t s e (fun f hf => h.ext t f (hst f hf)) hs

theorem lt_or_one {s f : Nat} (hs : s < 2 ^ n) (hf : f < n) : s ||| one f < 2 ^ n :=
  Nat.or_lt_two_pow hs (Nat.pow_lt_pow_right (by decide) hf)

theorem dif_or (s e f : Nat) (h : e ≠ f) : dif (s ||| one f) (one e) = dif s (one e) ||| one f := Nat.eq_of_testBit_eq fun i => by
  simp only [testBit_dif, Nat.testBit_or, testBit_one]
  by_cases h1 : e = i
  · subst h1; simp; intro h2; exact absurd h2.symm h
  · simp [h1]

theorem dif_or_self (s f : Nat) (h : s.testBit f = false) : dif (s ||| one f) (one f) = s := Nat.eq_of_testBit_eq fun i => by
  simp only [testBit_dif, Nat.testBit_or, testBit_one]
  by_cases h1 : f = i
  · subst h1; simp [h]
  · simp [h1]

theorem or_dif_self (s f : Nat) (h : s.testBit f = true) : dif s (one f) ||| one f = s := Nat.eq_of_testBit_eq fun i => by
  simp only [testBit_dif, Nat.testBit_or, testBit_one]
  by_cases h1 : f = i
  · subst h1; simp [h]
  · simp [h1]

theorem add (h : Closure cl) {s f : Nat} (hs : Free n cl s) (hf : f < n) (hn : ¬ cl s f) : Free n cl (s ||| one f) := by
  refine ⟨lt_or_one hs.1 hf, fun e he hc => ?_⟩
  have hsf : s.testBit f = false := by
    cases hb : s.testBit f with
    | false => rfl
    | true => exact absurd (h.ext s f hb) hn
  by_cases hef : e = f
  · subst hef; rw [dif_or_self s e hsf] at hc; exact hn hc
  · rw [dif_or s e f hef] at hc
    have hes : s.testBit e = true := by
      simp only [Nat.testBit_or, testBit_one, Bool.or_eq_true, decide_eq_true_eq] at he
      rcases he with he | he
      · exact he
      · exact absurd he.symm hef
    have := h.exch _ e f hc (hs.2 e hes)
    rw [or_dif_self s e hes] at this
    exact hn this

theorem sub (h : Closure cl) {a b : Nat} (hb : Free n cl b) (hab : Sub a b) : Free n cl a := by
  refine ⟨lt_of_sub hab hb.1, fun e he hc => hb.2 e (hab e he) (h.mono (fun i hi => ?_) hc)⟩
  simp only [testBit_dif, Bool.and_eq_true] at hi ⊢
  exact ⟨hab i hi.1, hi.2⟩

/-- STEINITZ: what is free and hangs on a set has no more elements than it. -/
theorem steinitz (h : Closure cl) (hn8 : n ≤ 8) (d : Nat) : ∀ j i, Free n cl j → i < 2 ^ n → (∀ e, j.testBit e = true → cl i e) → pop (dif j i) ≤ d → pop j ≤ pop i := by
  induction d with
  | zero =>
    intro j i hj hi hc hd
    refine pop_mono fun e he => ?_
    have hz : dif j i = 0 := zero_of_pop (lt_of_sub (n := 8) (fun x hx => by simp at hx; exact hx.1) (Nat.lt_of_lt_of_le hj.1 (Nat.pow_le_pow_right (by decide) hn8))) (by omega)
    have : (dif j i).testBit e = false := by rw [hz, Nat.zero_testBit]
    rw [testBit_dif, he] at this
    simpa using this
  | succ d ih =>
    intro j i hj hi hc hd
    by_cases hs : Sub j i
    · exact pop_mono hs
    · obtain ⟨e, hej, hei⟩ := exists_of_not_sub hs
      have hj8 : j < 256 := Nat.lt_of_lt_of_le hj.1 (Nat.pow_le_pow_right (by decide) hn8)
      have he8 := lt8_of_testBit hj8 hej
      -- some f of i does not hang on what j has beside e
      obtain ⟨f, hfi, hnf⟩ : ∃ f, i.testBit f = true ∧ ¬ cl (dif j (one e)) f := by
        apply Classical.byContradiction
        intro hno
        refine hj.2 e hej (h.idem _ i e (fun f hf => ?_) (hc e hej))
        apply Classical.byContradiction
        intro hcf
        exact hno ⟨f, hf, hcf⟩
      have hfn : f < n := by
        rcases Nat.lt_or_ge f n with hlt | hge
        · exact hlt
        · rw [Nat.testBit_lt_two_pow (Nat.lt_of_lt_of_le hi (Nat.pow_le_pow_right (by decide) hge))] at hfi; exact absurd hfi (by decide)
      have hk : Free n cl (dif j (one e)) := h.sub hj fun x hx => by simp at hx; exact hx.1
      have hkf : (dif j (one e)).testBit f = false := by
        cases hb : (dif j (one e)).testBit f with
        | false => rfl
        | true => exact absurd (h.ext _ f hb) hnf
      have hk' := h.add hk hfn hnf
      have p1 := pop_take he8 hej
      have p2 := pop_add (Nat.lt_of_lt_of_le hfn hn8) hkf
      have hej' : (dif j i).testBit e = true := by rw [testBit_dif, hej, hei]; rfl
      have p3 := pop_take he8 hej'
      have e1 : dif (dif j (one e) ||| one f) i = dif (dif j i) (one e) := Nat.eq_of_testBit_eq fun x => by
        simp only [testBit_dif, Nat.testBit_or, testBit_one]
        by_cases h1 : f = x
        · subst h1; simp [hfi]
        · simp [h1]; cases j.testBit x <;> cases i.testBit x <;> simp
      have := ih (dif j (one e) ||| one f) i hk' hi (fun x hx => ?_) (by rw [e1]; omega)
      · omega
      · simp only [Nat.testBit_or, testBit_dif, testBit_one, Bool.or_eq_true, Bool.and_eq_true, decide_eq_true_eq] at hx
        rcases hx with hx | hx
        · exact hc x hx.1
        · subst hx; exact h.ext i f hfi

theorem indep (h : Closure cl) (hn8 : n ≤ 8) : Indep n (Free n cl) where
  small := hn8
  lt := fun _ hs => hs.1
  zero := ⟨Nat.two_pow_pos n, fun e he => by simp at he⟩
  sub := fun _ _ hb hab => h.sub hb hab
  aug := fun a b ha hb hlt => by
    apply Classical.byContradiction
    intro hno
    have := h.steinitz hn8 8 b a hb ha.1 (fun e he => ?_) (pop_le _)
    · omega
    · cases hae : a.testBit e with
      | true => exact h.ext a e hae
      | false =>
        apply Classical.byContradiction
        intro hc
        have hen : e < n := by
          rcases Nat.lt_or_ge e n with hlt | hge
          · exact hlt
          · rw [Nat.testBit_lt_two_pow (Nat.lt_of_lt_of_le hb.1 (Nat.pow_le_pow_right (by decide) hge))] at he; exact absurd he (by decide)
        exact hno ⟨e, he, hae, h.add ha hen hc⟩

/-- the rank stays just where the element hangs on the set. -/
theorem rk_add (h : Closure cl) {B : List Nat} (hB : Bases n (Free n cl) B) {s e : Nat} (hs : s < 2 ^ n) (he : e < n) :
    (cl s e → rk B (s ||| one e) = rk B s) ∧ (¬ cl s e → rk B (s ||| one e) = rk B s + 1) := by
  obtain ⟨c, hc, _, hcs, hp⟩ := hB.spans hB.ind.zero (fun i hi => by simp at hi : Sub 0 s)
  have hs8 : s < 256 := Nat.lt_of_lt_of_le hs (Nat.pow_le_pow_right (by decide) hB.ind.small)
  -- s hangs on c
  have hall : ∀ f, s.testBit f = true → cl c f := fun f hf => by
    apply Classical.byContradiction
    intro hn
    have hfn : f < n := by
      rcases Nat.lt_or_ge f n with hlt | hge
      · exact hlt
      · rw [Nat.testBit_lt_two_pow (Nat.lt_of_lt_of_le hs (Nat.pow_le_pow_right (by decide) hge))] at hf; exact absurd hf (by decide)
    have hF := h.add hc hfn hn
    have hcf : c.testBit f = false := by
      cases hb : c.testBit f with
      | false => rfl
      | true => exact absurd (h.ext c f hb) hn
    have hp2 := pop_add (lt8_of_testBit hs8 hf) hcf
    have h1 := hB.rk_of hF
    have h2 : rk B (c ||| one f) ≤ rk B s := Bases.rk_mono fun i hi => by
      simp only [Nat.testBit_or, testBit_one, Bool.or_eq_true, decide_eq_true_eq] at hi
      rcases hi with hi | hi
      · exact hcs i hi
      · subst hi; exact hf
    omega
  have hmono : rk B s ≤ rk B (s ||| one e) := Bases.rk_mono fun i hi => by simp [hi]
  -- at most one more
  have hup : rk B (s ||| one e) ≤ rk B s + 1 := rk_le fun b hb => by
    have h1 : Sub ((s ||| one e) &&& b) ((s &&& b) ||| one e) := fun i hi => by
      simp only [Nat.testBit_and, Nat.testBit_or, testBit_one, Bool.or_eq_true, Bool.and_eq_true, decide_eq_true_eq] at hi ⊢
      rcases hi.1 with h | h
      · exact .inl ⟨h, hi.2⟩
      · exact .inr h
    have h2 := pop_mono h1
    have h3 := pop_or_and (s &&& b) (one e)
    have h4 := pop_one (i := e) (Nat.lt_of_lt_of_le he hB.ind.small)
    have h5 := le_rk s hb
    omega
  constructor
  · intro hcl
    apply Classical.byContradiction
    intro hne
    obtain ⟨c2, hc2, hcc, hc2s, hp2⟩ := hB.spans hc (fun i hi => by simp [hcs i hi] : Sub c (s ||| one e))
    obtain ⟨f, hf2, hfc⟩ := exists_of_pop_lt (a := c) (b := c2) (by omega)
    have hclf : cl c f := by
      have := hc2s f hf2
      simp only [Nat.testBit_or, testBit_one, Bool.or_eq_true, decide_eq_true_eq] at this
      rcases this with h1 | h1
      · exact hall f h1
      · subst h1; exact h.idem c s e hall hcl
    refine hc2.2 f hf2 (h.mono (fun i hi => ?_) hclf)
    rw [testBit_dif, hcc i hi, testBit_one]
    have : f ≠ i := fun e => by subst e; rw [hfc] at hi; exact absurd hi (by decide)
    simp [this]
  · intro hncl
    have hnc : ¬ cl c e := fun hce => hncl (h.mono hcs hce)
    have hF := h.add hc he hnc
    have hce : c.testBit e = false := by
      cases hb : c.testBit e with
      | false => rfl
      | true => exact absurd (h.ext c e hb) hnc
    have h1 := hB.rk_of hF
    have h2 := pop_add (Nat.lt_of_lt_of_le he hB.ind.small) hce
    have h3 : rk B (c ||| one e) ≤ rk B (s ||| one e) := Bases.rk_mono fun i hi => by
      simp only [Nat.testBit_or, testBit_one, Bool.or_eq_true, decide_eq_true_eq] at hi ⊢
      rcases hi with hi | hi
      · exact .inl (hcs i hi)
      · exact .inr hi
    omega

end Closure

/-- the closure of a graph's edges: where two ends may not be told apart by two colours. -/
def gcl (A B : Nat → Nat) (s e : Nat) : Prop :=
  ∀ c : Nat → Bool, (∀ f, s.testBit f = true → c (A f) = c (B f)) → c (A e) = c (B e)

theorem gcl_closure (A B : Nat → Nat) : Closure (gcl A B) where
  ext := fun _ e he _ hc => hc e he
  idem := fun _ _ _ ht he c hc => he c fun f hf => ht f hf c hc
  exch := fun s e f hef hne c hc => by
    apply Classical.byContradiction
    intro hcf
    simp only [gcl, Classical.not_forall] at hne
    obtain ⟨k, hk, hke⟩ := hne
    refine hke ?_
    have hkf : k (A f) ≠ k (B f) := fun h => hke (hef k fun g hg => by
      simp only [Nat.testBit_or, testBit_one, Bool.or_eq_true, decide_eq_true_eq] at hg
      rcases hg with hg | hg
      · exact hk g hg
      · subst hg; exact h)
    have hce : c (A e) = c (B e) := hc e (by simp [testBit_one])
    have := hef (fun v => xor (k v) (c v)) fun g hg => by
      simp only [Nat.testBit_or, testBit_one, Bool.or_eq_true, decide_eq_true_eq] at hg
      rcases hg with hg | hg
      · simp only [hk g hg, hc g (by simp [hg])]
      · subst hg
        revert hkf hcf
        generalize k (A f) = k1, k (B f) = k2, c (A f) = c1, c (B f) = c2
        cases k1 <;> cases k2 <;> cases c1 <;> cases c2 <;> simp
    simp only [hce] at this
    revert this
    generalize k (A e) = k1, k (B e) = k2, c (B e) = c1
    cases k1 <;> cases k2 <;> cases c1 <;> simp

/-- colours of any kind serve. -/
theorem gcl_any {A B : Nat → Nat} {s e : Nat} (h : gcl A B s e) {α : Type} [DecidableEq α] (c : Nat → α) (hc : ∀ f, s.testBit f = true → c (A f) = c (B f)) :
    c (A e) = c (B e) := by
  have := h (fun v => decide (c v = c (A e))) fun f hf => by rw [hc f hf]
  simp only [decide_true] at this
  exact (of_decide_eq_true this.symm).symm

end Go.Proofs.Ytkppdmlellmepaa.Mat
