/-
  Plain Lean, no program in sight: a matroid's bases, its ranks, and both exchanges, out of its independent sets; and independent sets out of bases that exchange.
-/
import Derived.Test.YtkppdmlellmepaaMatA
namespace Go.Proofs.Ytkppdmlellmepaa.Mat

/-- the rank of a set: how much of a basis lies in it at most. -/
def rk (B : List Nat) (s : Nat) : Nat := B.foldl (fun m b => max m (pop (s &&& b))) 0

theorem foldl_max_le (f : Nat → Nat) (B : List Nat) : ∀ m k, m ≤ k → (∀ b, b ∈ B → f b ≤ k) → B.foldl (fun m b => max m (f b)) m ≤ k := by
  induction B with
  | nil => exact fun m k h _ => h
  | cons b B ih =>
    intro m k h hb
    simp only [List.foldl_cons]
    exact ih _ _ (Nat.max_le.2 ⟨h, hb b (by simp)⟩) fun c hc => hb c (by simp [hc])

theorem le_foldl_max (f : Nat → Nat) (B : List Nat) : ∀ m, m ≤ B.foldl (fun m b => max m (f b)) m := by
  induction B with
  | nil => exact fun m => Nat.le_refl m
  | cons b B ih => intro m; simp only [List.foldl_cons]; exact Nat.le_trans (Nat.le_max_left _ _) (ih _)

theorem le_foldl_max_of_mem (f : Nat → Nat) (B : List Nat) : ∀ m b, b ∈ B → f b ≤ B.foldl (fun m b => max m (f b)) m := by
  induction B with
  | nil => exact fun m b h => absurd h (by simp)
  | cons c B ih =>
    intro m b h
    simp only [List.foldl_cons]
    rcases List.mem_cons.1 h with rfl | h
    · exact Nat.le_trans (Nat.le_max_right _ _) (le_foldl_max f B _)
    · exact ih _ b h

theorem foldl_max_mem (f : Nat → Nat) (B : List Nat) : ∀ m, B.foldl (fun m b => max m (f b)) m = m ∨ ∃ b, b ∈ B ∧ B.foldl (fun m b => max m (f b)) m = f b := by
  induction B with
  | nil => exact fun m => .inl rfl
  | cons c B ih =>
    intro m
    simp only [List.foldl_cons]
    rcases ih (max m (f c)) with h | ⟨b, hb, h⟩
    · rw [h]
      rcases Nat.le_total (f c) m with hm | hm
      · exact .inl (Nat.max_eq_left hm)
      · exact .inr ⟨c, by simp, Nat.max_eq_right hm⟩
    · exact .inr ⟨b, by simp [hb], h⟩

theorem le_rk {B : List Nat} {b : Nat} (s : Nat) (h : b ∈ B) : pop (s &&& b) ≤ rk B s := le_foldl_max_of_mem (fun b => pop (s &&& b)) B 0 b h
theorem rk_le {B : List Nat} {s k : Nat} (h : ∀ b, b ∈ B → pop (s &&& b) ≤ k) : rk B s ≤ k := foldl_max_le (fun b => pop (s &&& b)) B 0 k (Nat.zero_le _) h

theorem rk_mem {B : List Nat} (s : Nat) (h : B ≠ []) : ∃ b, b ∈ B ∧ rk B s = pop (s &&& b) := by
  rcases foldl_max_mem (fun b => pop (s &&& b)) B 0 with h0 | h1
  · cases B with
    | nil => exact absurd rfl h
    | cons b B => exact ⟨b, by simp, by have h1 := le_rk (B := b :: B) s (b := b) (by simp); have h2 : rk (b :: B) s = 0 := h0; omega⟩
  · exact h1

/-- B: all bases of the matroid. -/
structure Bases (n : Nat) (I : Nat → Prop) (B : List Nat) : Prop where
  ind : Indep n I
  mem : ∀ s, s ∈ B ↔ I s ∧ ∀ t, I t → pop t ≤ pop s

namespace Bases
variable {n : Nat} {I : Nat → Prop} {B : List Nat}

theorem nonempty_of (d : Nat) : ∀ s, I s → 8 - pop s ≤ d → ∃ b, I b ∧ ∀ t, I t → pop t ≤ pop b := by
  induction d with
  | zero => exact fun s hs h => ⟨s, hs, fun t _ => by have := pop_le t; omega⟩
  | succ d ih =>
    intro s hs h
    by_cases hb : ∀ t, I t → pop t ≤ pop s
    · exact ⟨s, hs, hb⟩
    · simp only [Classical.not_forall] at hb
      obtain ⟨t, ht, hlt⟩ := hb
      exact ih t ht (by have := pop_le t; omega)

theorem nonempty (h : Bases n I B) : ∃ b, b ∈ B := by
  obtain ⟨b, hb, hm⟩ := nonempty_of 8 0 h.ind.zero (by rw [pop_zero]; exact Nat.le_refl _)
  exact ⟨b, (h.mem b).2 ⟨hb, hm⟩⟩

theorem ne_nil (h : Bases n I B) : B ≠ [] := by
  obtain ⟨b, hb⟩ := h.nonempty
  intro e; rw [e] at hb; exact absurd hb (by simp)

theorem I_of (h : Bases n I B) {b : Nat} (hb : b ∈ B) : I b := ((h.mem b).1 hb).1
theorem same (h : Bases n I B) {a b : Nat} (ha : a ∈ B) (hb : b ∈ B) : pop a = pop b :=
  Nat.le_antisymm (((h.mem b).1 hb).2 a (h.I_of ha)) (((h.mem a).1 ha).2 b (h.I_of hb))
theorem of_pop (h : Bases n I B) {a b : Nat} (ha : a ∈ B) (hb : I b) (hp : pop a ≤ pop b) : b ∈ B :=
  (h.mem b).2 ⟨hb, fun t ht => Nat.le_trans (((h.mem a).1 ha).2 t ht) hp⟩

/-- an independent set lies in a basis. -/
theorem within (h : Bases n I B) {s : Nat} (hs : I s) : ∃ b, b ∈ B ∧ Sub s b := by
  obtain ⟨a, ha⟩ := h.nonempty
  obtain ⟨c, hc, h1, _, h3⟩ := h.ind.grow' hs (h.I_of ha) (((h.mem a).1 ha).2 s hs)
  exact ⟨c, h.of_pop ha hc (by omega), h1⟩

/-- each element of a that b has not is exchanged for one of b. -/
theorem exchange (h : Bases n I B) {a b x : Nat} (ha : a ∈ B) (hb : b ∈ B) (hx : a.testBit x = true) (hxb : b.testBit x = false) :
    ∃ y, b.testBit y = true ∧ a.testBit y = false ∧ (dif a (one x) ||| one y) ∈ B := by
  have hx8 := lt8_of_testBit (h.ind.lt256 (h.I_of ha)) hx
  have ht := pop_take hx8 hx
  have hIa : I (dif a (one x)) := h.ind.sub _ _ (h.I_of ha) fun i hi => by simp at hi; exact hi.1
  obtain ⟨y, hy, hya, hI⟩ := h.ind.aug _ b hIa (h.I_of hb) (by have := h.same ha hb; omega)
  have hp := pop_add (lt8_of_testBit (h.ind.lt256 (h.I_of hb)) hy) hya
  rw [testBit_dif, testBit_one] at hya
  have hne : x ≠ y := fun e => by subst e; rw [hxb] at hy; exact absurd hy (by decide)
  simp only [hne, decide_false, Bool.not_false, Bool.and_true] at hya
  exact ⟨y, hy, hya, h.of_pop ha hI (by omega)⟩

/-- for each element of b that a has not one of a leaves. -/
theorem coexchange (h : Bases n I B) {a b x : Nat} (ha : a ∈ B) (hb : b ∈ B) (hx : b.testBit x = true) (hxa : a.testBit x = false) :
    ∃ y, a.testBit y = true ∧ b.testBit y = false ∧ dif (a ||| one x) (one y) ∈ B := by
  have hx8 := lt8_of_testBit (h.ind.lt256 (h.I_of hb)) hx
  have hI : I ((a &&& b) ||| one x) := h.ind.sub _ _ (h.I_of hb) fun i hi => by
    simp only [Nat.testBit_or, Nat.testBit_and, testBit_one, Bool.or_eq_true, Bool.and_eq_true, decide_eq_true_eq] at hi
    rcases hi with hi | hi
    · exact hi.2
    · subst hi; exact hx
  have hle : pop ((a &&& b) ||| one x) ≤ pop a := by
    rw [h.same ha hb]
    refine pop_mono fun i hi => ?_
    simp only [Nat.testBit_or, Nat.testBit_and, testBit_one, Bool.or_eq_true, Bool.and_eq_true, decide_eq_true_eq] at hi
    rcases hi with hi | hi
    · exact hi.2
    · subst hi; exact hx
  obtain ⟨c, hc, h1, h2, h3⟩ := h.ind.grow' hI (h.I_of ha) hle
  have hcB := h.of_pop ha hc (by omega)
  have hca : Sub c (a ||| one x) := fun i hi => by
    have := h2 i hi
    simp only [Nat.testBit_or, Nat.testBit_and, testBit_one, Bool.or_eq_true, Bool.and_eq_true, decide_eq_true_eq] at this ⊢
    rcases this with (h | h) | h
    · exact .inl h.1
    · exact .inr h
    · exact .inl h
  have hpx := pop_add hx8 hxa
  -- what c lacks of a and x is one element
  obtain ⟨y, hy, hyc⟩ := exists_of_pop_lt (a := c) (b := a ||| one x) (by omega)
  have hxc : c.testBit x = true := h1 x (by simp [testBit_one])
  have hyx : x ≠ y := fun e => by subst e; rw [hxc] at hyc; exact absurd hyc (by decide)
  have hya : a.testBit y = true := by
    simp only [Nat.testBit_or, testBit_one, Bool.or_eq_true, decide_eq_true_eq] at hy
    exact hy.resolve_right hyx
  have hyb : b.testBit y = false := by
    cases hb' : b.testBit y with
    | false => rfl
    | true => have := h1 y (by simp [hya, hb']); rw [hyc] at this; exact absurd this (by decide)
  refine ⟨y, hya, hyb, ?_⟩
  have hsub : Sub c (dif (a ||| one x) (one y)) := fun i hi => by
    rw [testBit_dif, hca i hi, testBit_one]
    have : y ≠ i := fun e => by subst e; rw [hyc] at hi; exact absurd hi (by decide)
    simp [this]
  have hy8 := lt8_of_testBit (h.ind.lt256 (h.I_of ha)) hya
  have hpt := pop_take (a := a ||| one x) hy8 (by simp [hya])
  have h256 : dif (a ||| one x) (one y) < 256 := by
    refine lt_of_sub (n := 8) (b := a ||| b) (fun i hi => ?_) (Nat.or_lt_two_pow (h.ind.lt256 (h.I_of ha)) (h.ind.lt256 (h.I_of hb)))
    simp only [testBit_dif, Nat.testBit_or, testBit_one, Bool.and_eq_true, Bool.or_eq_true, decide_eq_true_eq] at hi ⊢
    rcases hi.1 with h | h
    · exact .inl h
    · subst h; exact .inr hx
  rw [← sub_eq_of_pop h256 hsub (by omega)]
  exact hcB

/-- the rank of an independent set. -/
theorem rk_of (h : Bases n I B) {s : Nat} (hs : I s) : rk B s = pop s := by
  refine Nat.le_antisymm (rk_le fun b _ => pop_mono fun i hi => by simp at hi; exact hi.1) ?_
  obtain ⟨b, hb, hsub⟩ := h.within hs
  have := le_rk s hb
  have e : s &&& b = s := Nat.eq_of_testBit_eq fun i => by
    rw [Nat.testBit_and]
    cases hi : s.testBit i with
    | true => rw [hsub i hi]; rfl
    | false => rfl
  rw [e] at this; exact this

theorem rk_mono {s t : Nat} (h : Sub s t) : rk B s ≤ rk B t :=
  rk_le fun b hb => Nat.le_trans (pop_mono fun i hi => by simp at hi ⊢; exact ⟨h i hi.1, hi.2⟩) (le_rk t hb)

/-- each set has an independent set of its rank within it, which grows out of a given one. -/
theorem spans (h : Bases n I B) {j s : Nat} (hj : I j) (hjs : Sub j s) : ∃ c, I c ∧ Sub j c ∧ Sub c s ∧ pop c = rk B s := by
  obtain ⟨b, hb, e⟩ := rk_mem s h.ne_nil
  have hI : I (s &&& b) := h.ind.sub _ _ (h.I_of hb) fun i hi => by simp at hi; exact hi.2
  have hle : pop j ≤ pop (s &&& b) := by rw [← e, ← h.rk_of hj]; exact rk_mono hjs
  obtain ⟨c, hc, h1, h2, h3⟩ := h.ind.grow' hj hI hle
  refine ⟨c, hc, h1, fun i hi => ?_, by omega⟩
  have := h2 i hi
  simp only [Nat.testBit_or, Nat.testBit_and, Bool.or_eq_true, Bool.and_eq_true] at this
  rcases this with h | h
  · exact hjs i h
  · exact h.1

theorem I_of_rk (h : Bases n I B) {s : Nat} (hs : s < 256) (hr : rk B s = pop s) : I s := by
  obtain ⟨c, hc, _, h2, h3⟩ := h.spans h.ind.zero (fun i hi => by simp at hi : Sub 0 s)
  rw [← sub_eq_of_pop hs h2 (by omega)]; exact hc

end Bases

/-- Bases that exchange: as the program's own look at them says. -/
structure Exch (n : Nat) (B : List Nat) : Prop where
  small : n ≤ 8
  ne : B ≠ []
  lt : ∀ b, b ∈ B → b < 2 ^ n
  same : ∀ a b, a ∈ B → b ∈ B → pop a = pop b
  exch : ∀ a b x, a ∈ B → b ∈ B → a.testBit x = true → b.testBit x = false →
    ∃ y, b.testBit y = true ∧ a.testBit y = false ∧ (dif a (one x) ||| one y) ∈ B

/-- what lies in a basis. -/
def In (B : List Nat) (s : Nat) : Prop := ∃ b, b ∈ B ∧ Sub s b

namespace Exch
variable {n : Nat} {B : List Nat}

theorem lt256 (h : Exch n B) {b : Nat} (hb : b ∈ B) : b < 256 :=
  Nat.lt_of_lt_of_le (h.lt b hb) (Nat.pow_le_pow_right (by decide) h.small : 2 ^ n ≤ 2 ^ 8)

/-- augmentation, by how much of the greater set's basis the smaller one's lacks. -/
theorem aug (h : Exch n B) (d : Nat) : ∀ s t a b, a ∈ B → b ∈ B → Sub s a → Sub t b → pop s < pop t → pop (dif a (b ||| s)) ≤ d →
    ∃ i, t.testBit i = true ∧ s.testBit i = false ∧ In B (s ||| one i) := by
  induction d with
  | zero =>
    intro s t a b ha hb hs ht hlt hd
    -- a lies within b and s; some element of t without s lies in a
    apply Classical.byContradiction
    intro hn
    have hz : dif a (b ||| s) = 0 := zero_of_pop (lt_of_sub (n := 8) (fun i hi => by simp at hi; exact hi.1) (h.lt256 ha)) (by omega)
    have hno : ∀ i, t.testBit i = true → s.testBit i = false → a.testBit i = false := fun i h1 h2 => by
      cases hai : a.testBit i with
      | false => rfl
      | true =>
        refine absurd ⟨i, h1, h2, a, ha, fun j hj => ?_⟩ hn
        simp only [Nat.testBit_or, testBit_one, Bool.or_eq_true, decide_eq_true_eq] at hj
        rcases hj with hj | hj
        · exact hs j hj
        · subst hj; exact hai
    have hab : ∀ i, a.testBit i = true → b.testBit i = true ∨ s.testBit i = true := fun i hi => by
      have : (dif a (b ||| s)).testBit i = false := by rw [hz, Nat.zero_testBit]
      rw [testBit_dif, hi, Nat.testBit_or] at this
      simp at this
      cases hb : b.testBit i with
      | true => exact .inl rfl
      | false => exact .inr (this hb)
    -- a without s, and t, lie beside each other in b, but for what t has of s
    have h1 : Sub (dif a s ||| dif t s) (dif b (b &&& s &&& dif s t)) := fun i hi => by
      simp only [Nat.testBit_or, testBit_dif, Bool.or_eq_true, Bool.and_eq_true, Bool.not_eq_true', Nat.testBit_and] at hi ⊢
      rcases hi with ⟨h1, h2⟩ | ⟨h1, h2⟩
      · rcases hab i h1 with h3 | h3
        · simp [h3, h2]
        · rw [h2] at h3; exact absurd h3 (by decide)
      · have := ht i h1; simp [this, h2]
    have hdis : dif a s &&& dif t s = 0 := Nat.eq_of_testBit_eq fun i => by
      rw [Nat.testBit_and, testBit_dif, testBit_dif, Nat.zero_testBit]
      cases h1 : t.testBit i with
      | false => simp
      | true => cases h2 : s.testBit i with
        | true => simp
        | false => rw [hno i h1 h2]; rfl
    have p1 := pop_or_and (dif a s) (dif t s)
    rw [hdis, pop_zero] at p1
    have p2 := pop_dif hs
    have p3 : pop (dif t s) + pop (t &&& s) = pop t := by
      have := pop_dif (a := t) (b := t &&& s) (fun i hi => by simp at hi; exact hi.1)
      have e : dif t (t &&& s) = dif t s := Nat.eq_of_testBit_eq fun i => by
        rw [testBit_dif, testBit_dif, Nat.testBit_and]; cases t.testBit i <;> cases s.testBit i <;> rfl
      rw [e] at this; exact this
    have p4 : Sub (dif a s ||| dif t s ||| (t &&& s)) b := fun i hi => by
      simp only [Nat.testBit_or, Bool.or_eq_true, Nat.testBit_and, Bool.and_eq_true] at hi
      rcases hi with hi | hi
      · have := h1 i (by simpa using hi); rw [testBit_dif] at this; simp at this; exact this.1
      · exact ht i hi.1
    have p5 := pop_mono p4
    have p6 := pop_or_and (dif a s ||| dif t s) (t &&& s)
    have hdis2 : (dif a s ||| dif t s) &&& (t &&& s) = 0 := Nat.eq_of_testBit_eq fun i => by
      rw [Nat.testBit_and, Nat.testBit_or, testBit_dif, testBit_dif, Nat.testBit_and, Nat.zero_testBit]
      cases a.testBit i <;> cases t.testBit i <;> cases s.testBit i <;> rfl
    rw [hdis2, pop_zero] at p6
    have p7 := h.same a b ha hb
    omega
  | succ d ih =>
    intro s t a b ha hb hs ht hlt hd
    by_cases hz : dif a (b ||| s) = 0
    · exact ih s t a b ha hb hs ht hlt (by rw [hz, pop_zero]; exact Nat.zero_le _)
    · -- an element x of a, in neither b nor s: exchange it for one of b
      obtain ⟨x, hx⟩ : ∃ x, (dif a (b ||| s)).testBit x = true := by
        apply Classical.byContradiction
        intro hn
        refine hz (Nat.eq_of_testBit_eq fun i => ?_)
        rw [Nat.zero_testBit]
        cases hi : (dif a (b ||| s)).testBit i with
        | false => rfl
        | true => exact absurd ⟨i, hi⟩ hn
      have hx' := hx
      simp only [testBit_dif, Nat.testBit_or, Bool.and_eq_true, Bool.not_eq_true', Bool.or_eq_false_iff] at hx
      obtain ⟨hxa, hxb, hxs⟩ := hx
      obtain ⟨y, hyb, hya, hB⟩ := h.exch a b x ha hb hxa hxb
      refine ih s t (dif a (one x) ||| one y) b hB hb (fun i hi => ?_) ht hlt ?_
      · have : x ≠ i := fun e => by subst e; rw [hxs] at hi; exact absurd hi (by decide)
        simp [hs i hi, testBit_one, this]
      · have e : dif (dif a (one x) ||| one y) (b ||| s) = dif (dif a (b ||| s)) (one x) := Nat.eq_of_testBit_eq fun i => by
          simp only [testBit_dif, Nat.testBit_or, testBit_one]
          by_cases h1 : y = i
          · subst h1; simp [hyb, hya]
          · simp [h1]; cases a.testBit i <;> cases b.testBit i <;> cases s.testBit i <;> simp
        rw [e]
        have := pop_take (lt8_of_testBit (h.lt256 ha) hxa) hx'
        omega

theorem indep (h : Exch n B) : Indep n (In B) where
  small := h.small
  lt := fun s ⟨b, hb, hs⟩ => lt_of_sub hs (h.lt b hb)
  zero := by
    cases hB : B with
    | nil => exact absurd hB h.ne
    | cons b l => exact ⟨b, by simp, fun i hi => by simp at hi⟩
  sub := fun a b ⟨c, hc, hs⟩ hab => ⟨c, hc, hab.trans hs⟩
  aug := fun s t ⟨a, ha, hs⟩ ⟨b, hb, ht⟩ hlt => h.aug _ s t a b ha hb hs ht hlt (Nat.le_refl _)

theorem bases (h : Exch n B) : Bases n (In B) B where
  ind := h.indep
  mem := fun s => by
    constructor
    · exact fun hs => ⟨⟨s, hs, Sub.refl s⟩, fun t ⟨b, hb, ht⟩ => by rw [h.same s b hs hb]; exact pop_mono ht⟩
    · rintro ⟨⟨b, hb, hs⟩, hm⟩
      have := hm b ⟨b, hb, Sub.refl b⟩
      rw [sub_eq_of_pop (h.lt256 hb) hs this]; exact hb

end Exch

theorem Bases.exch {n : Nat} {I : Nat → Prop} {B : List Nat} (h : Bases n I B) : Exch n B where
  small := h.ind.small
  ne := h.ne_nil
  lt := fun b hb => h.ind.lt b (h.I_of hb)
  same := fun _ _ ha hb => h.same ha hb
  exch := fun _ _ _ ha hb hx hxb => h.exchange ha hb hx hxb

end Go.Proofs.Ytkppdmlellmepaa.Mat
