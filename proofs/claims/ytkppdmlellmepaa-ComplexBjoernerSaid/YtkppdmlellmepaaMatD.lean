/-
  Plain Lean, no program in sight: minors of graphs: no four elements of which any two are a basis, not FANO's plane, nor its dual; and what the dual has as minors.
-/
import Derived.Test.YtkppdmlellmepaaMatC
namespace Go.Proofs.Ytkppdmlellmepaa.Mat

/-- the set that f makes of the names j < m in S. -/
def img (f : Nat → Nat) : Nat → Nat → Nat
  | 0, _ => 0
  | m + 1, S => if S.testBit m = true then img f m S ||| one (f m) else img f m S

theorem testBit_img (f : Nat → Nat) (S i : Nat) : ∀ m, (img f m S).testBit i = true ↔ ∃ j, j < m ∧ S.testBit j = true ∧ f j = i
  | 0 => by simp [img]
  | m + 1 => by
    unfold img
    by_cases h : S.testBit m = true
    · rw [if_pos h, Nat.testBit_or, Bool.or_eq_true, testBit_img f S i m, testBit_one, decide_eq_true_eq]
      constructor
      · rintro (⟨j, h1, h2, h3⟩ | h1)
        · exact ⟨j, by omega, h2, h3⟩
        · exact ⟨m, by omega, h, h1⟩
      · rintro ⟨j, h1, h2, h3⟩
        by_cases e : j = m
        · subst e; exact .inr h3
        · exact .inl ⟨j, by omega, h2, h3⟩
    · rw [if_neg h, testBit_img f S i m]
      constructor
      · rintro ⟨j, h1, h2, h3⟩; exact ⟨j, by omega, h2, h3⟩
      · rintro ⟨j, h1, h2, h3⟩
        by_cases e : j = m
        · subst e; exact absurd h2 h
        · exact ⟨j, by omega, h2, h3⟩

theorem pop_or_le (a b : Nat) : pop (a ||| b) ≤ pop a + pop b := by have := pop_or_and a b; omega

theorem pop_one_le (i : Nat) : pop (one i) ≤ 1 := by
  rcases Nat.lt_or_ge i 8 with h | h
  · rw [pop_one h]; exact Nat.le_refl _
  · have : pop (one i) = 0 := by
      unfold pop
      rw [List.countP_eq_zero]
      intro j hj
      rw [testBit_one]
      have := List.mem_range.1 hj
      simp; omega
    omega

/-- the set of a list's elements. -/
def mask : List Nat → Nat
  | [] => 0
  | j :: l => one j ||| mask l

theorem testBit_mask (i : Nat) : ∀ l, (mask l).testBit i = true ↔ i ∈ l
  | [] => by simp [mask]
  | j :: l => by
    rw [mask, Nat.testBit_or, Bool.or_eq_true, testBit_mask i l, testBit_one, decide_eq_true_eq, List.mem_cons]
    constructor
    · rintro (h | h)
      · exact .inl h.symm
      · exact .inr h
    · rintro (h | h)
      · exact .inl h.symm
      · exact .inr h

/-- of a rank function r on n elements: names j < m for elements beside c make of them, c being contracted, the matroid of rank rho whose bases K tells. -/
def HasMinor (r : Nat → Nat) (n m rho : Nat) (K : Nat → Bool) : Prop :=
  ∃ c f, c < 2 ^ n ∧ (∀ j, j < m → f j < n) ∧ (∀ i j, i < m → j < m → f i = f j → i = j) ∧ (∀ j, j < m → c.testBit (f j) = false) ∧
    r (c ||| img f m (2 ^ m - 1)) = r c + rho ∧ ∀ S, S < 2 ^ m → pop S = rho → (r (c ||| img f m S) = r c + rho ↔ K S = true)

theorem img_one (f : Nat → Nat) (m S j : Nat) (hj : j < m) : img f m (one j ||| S) = img f m S ||| one (f j) := by
  refine Nat.eq_of_testBit_eq fun i => ?_
  rw [Bool.eq_iff_iff, testBit_img, Nat.testBit_or, Bool.or_eq_true, testBit_img, testBit_one, decide_eq_true_eq]
  constructor
  · rintro ⟨k, h1, h2, h3⟩
    rw [Nat.testBit_or, Bool.or_eq_true, testBit_one, decide_eq_true_eq] at h2
    rcases h2 with h2 | h2
    · subst h2; exact .inr h3
    · exact .inl ⟨k, h1, h2, h3⟩
  · rintro (⟨k, h1, h2, h3⟩ | h)
    · exact ⟨k, h1, by simp [h2], h3⟩
    · exact ⟨j, hj, by simp [testBit_one], h⟩

theorem rk_or_le (B : List Nat) (a b : Nat) : rk B (a ||| b) ≤ rk B a + pop b := rk_le fun x hx => by
  have h1 := le_rk a hx
  have h2 : Sub ((a ||| b) &&& x) ((a &&& x) ||| b) := fun i hi => by
    simp only [Nat.testBit_and, Nat.testBit_or, Bool.and_eq_true, Bool.or_eq_true] at hi ⊢
    rcases hi.1 with h | h
    · exact .inl ⟨h, hi.2⟩
    · exact .inr h
  have h3 := pop_mono h2
  have h4 := pop_or_le (a &&& x) b
  omega

theorem rk_img_le (B : List Nat) (f : Nat → Nat) (m c : Nat) : ∀ l : List Nat, (∀ j, j ∈ l → j < m) → rk B (c ||| img f m (mask l)) ≤ rk B c + l.length
  | [], _ => by
    have : img f m (mask []) = 0 := Nat.eq_of_testBit_eq fun i => by
      rw [Nat.zero_testBit]
      cases h : (img f m (mask [])).testBit i with
      | false => rfl
      | true => obtain ⟨j, _, h2, _⟩ := (testBit_img f _ i m).1 h; simp [mask] at h2
    rw [this, Nat.or_zero]; exact Nat.le_refl _
  | j :: l, h => by
    have ih := rk_img_le B f m c l fun k hk => h k (by simp [hk])
    rw [mask, img_one f m _ j (h j (by simp)), ← Nat.or_assoc]
    have h1 := rk_or_le B (c ||| img f m (mask l)) (one (f j))
    have h2 := pop_one_le (f j)
    simp only [List.length_cons]
    omega

theorem pop_mask : ∀ l : List Nat, l.Nodup → (∀ j, j ∈ l → j < 8) → pop (mask l) = l.length
  | [], _, _ => pop_zero
  | j :: l, hn, h => by
    rw [List.nodup_cons] at hn
    have hb : (mask l).testBit j = false := by
      cases hb : (mask l).testBit j with
      | false => rfl
      | true => exact absurd ((testBit_mask j l).1 hb) hn.1
    rw [mask, Nat.or_comm, pop_add (h j (by simp)) hb, pop_mask l hn.2 (fun k hk => h k (by simp [hk])), List.length_cons]

theorem mask_lt {m : Nat} : ∀ l : List Nat, (∀ j, j ∈ l → j < m) → mask l < 2 ^ m
  | [], _ => Nat.two_pow_pos m
  | j :: l, h => by
    rw [mask]
    exact Nat.or_lt_two_pow (Nat.pow_lt_pow_right (by decide) (h j (by simp))) (mask_lt l fun k hk => h k (by simp [hk]))

theorem sub_full {m S : Nat} (h : S < 2 ^ m) : Sub S (2 ^ m - 1) := fun i hi => by
  rw [Nat.testBit_two_pow_sub_one, decide_eq_true_eq]
  rcases Nat.lt_or_ge i m with h1 | h1
  · exact h1
  · rw [Nat.testBit_lt_two_pow (Nat.lt_of_lt_of_le h (Nat.pow_le_pow_right (by decide) h1))] at hi; exact absurd hi (by decide)

theorem img_mono {f : Nat → Nat} {m S T : Nat} (h : Sub S T) : Sub (img f m S) (img f m T) := fun i hi => by
  obtain ⟨j, h1, h2, h3⟩ := (testBit_img f S i m).1 hi
  exact (testBit_img f T i m).2 ⟨j, h1, h j h2, h3⟩

/-- what colours of a kind tell of a minor: where no colours tell elements of l apart, j is told apart or it isn't. -/
structure Told (n m rho : Nat) (K : Nat → Bool) (cl : Nat → Nat → Prop) (c : Nat) (f : Nat → Nat) : Prop where
  bas : ∀ l j, (j :: l).Nodup → (∀ k, k ∈ j :: l → k < m) → l.length + 1 = rho → K (mask (j :: l)) = true → ¬ cl (c ||| img f m (mask l)) (f j)
  dep : ∀ l k j, (k :: l).Nodup → (j :: l).Nodup → (∀ i, i ∈ k :: l → i < m) → j < m → l.length + 1 = rho → K (mask (k :: l)) = true → K (mask (j :: l)) = false → cl (c ||| img f m (mask l)) (f j)
  full : ∀ l j, l.Nodup → (∀ k, k ∈ l → k < m) → l.length = rho → K (mask l) = true → j < m → cl (c ||| img f m (mask l)) (f j)

theorem told {n m rho : Nat} {K : Nat → Bool} {cl : Nat → Nat → Prop} (h : Closure cl) {B : List Nat} (hB : Bases n (Free n cl) B) {c : Nat} {f : Nat → Nat} (hm : m ≤ 8) (hc : c < 2 ^ n) (hf : ∀ j, j < m → f j < n)
    (hr : rk B (c ||| img f m (2 ^ m - 1)) = rk B c + rho) (hK : ∀ S, S < 2 ^ m → pop S = rho → (rk B (c ||| img f m S) = rk B c + rho ↔ K S = true)) : Told n m rho K cl c f := by
  have hlt : ∀ S, c ||| img f m S < 2 ^ n := fun S => by
    refine Nat.or_lt_two_pow hc (Nat.lt_pow_two_of_testBit _ fun i hi => ?_)
    cases hb : (img f m S).testBit i with
    | false => rfl
    | true => obtain ⟨j, h1, _, h3⟩ := (testBit_img f S i m).1 hb; have := hf j h1; omega
  have hcons : ∀ l j, j < m → c ||| img f m (mask (j :: l)) = (c ||| img f m (mask l)) ||| one (f j) := fun l j hj => by
    rw [mask, img_one f m _ j hj, Nat.or_assoc]
  refine ⟨fun l j hn hl hrho hk hcl => ?_, fun l k j hn hn2 hl hj hrho hk hk2 => ?_, fun l j hn hl hrho hk hj => ?_⟩
  · have h1 := (hK (mask (j :: l)) (mask_lt _ hl) (by rw [pop_mask _ hn (fun k hk => Nat.lt_of_lt_of_le (hl k hk) hm)]; simp; omega)).2 hk
    rw [hcons l j (hl j (by simp)), (h.rk_add hB (hlt _) (hf j (hl j (by simp)))).1 hcl] at h1
    have := rk_img_le B f m c l fun k hk => hl k (by simp [hk])
    omega
  · apply Classical.byContradiction
    intro hncl
    have h1 := (hK (mask (k :: l)) (mask_lt _ hl) (by rw [pop_mask _ hn (fun k hk => Nat.lt_of_lt_of_le (hl k hk) hm)]; simp; omega)).2 hk
    rw [hcons l k (hl k (by simp))] at h1
    have h2 := rk_or_le B (c ||| img f m (mask l)) (one (f k))
    have h3 := pop_one_le (f k)
    have h4 := (h.rk_add hB (hlt (mask l)) (hf j hj)).2 hncl
    rw [← hcons l j hj] at h4
    have h5 := rk_img_le B f m c (j :: l) fun i hi => by
      rcases List.mem_cons.1 hi with rfl | hi
      · exact hj
      · exact hl i (by simp [hi])
    have hl2 : ∀ i, i ∈ j :: l → i < m := fun i hi => by
      rcases List.mem_cons.1 hi with rfl | hi
      · exact hj
      · exact hl i (by simp [hi])
    have h6 := (hK (mask (j :: l)) (mask_lt _ hl2) (by rw [pop_mask _ hn2 (fun k hk => Nat.lt_of_lt_of_le (hl2 k hk) hm)]; simp; omega)).1 (by simp only [List.length_cons] at h5; omega)
    rw [hk2] at h6; exact absurd h6 (by decide)
  · apply Classical.byContradiction
    intro hncl
    have h1 := (hK (mask l) (mask_lt _ hl) (by rw [pop_mask _ hn (fun k hk => Nat.lt_of_lt_of_le (hl k hk) hm)]; exact hrho)).2 hk
    have h4 := (h.rk_add hB (hlt (mask l)) (hf j hj)).2 hncl
    have h5 : Sub ((c ||| img f m (mask l)) ||| one (f j)) (c ||| img f m (2 ^ m - 1)) := fun i hi => by
      rw [Nat.testBit_or, Nat.testBit_or, Bool.or_eq_true, Bool.or_eq_true] at hi
      rw [Nat.testBit_or, Bool.or_eq_true]
      rcases hi with (hi | hi) | hi
      · exact .inl hi
      · exact .inr (img_mono (sub_full (mask_lt l hl)) i hi)
      · rw [testBit_one, decide_eq_true_eq] at hi
        exact .inr ((testBit_img f _ i m).2 ⟨j, hj, by rw [Nat.testBit_two_pow_sub_one]; simp [hj], hi⟩)
    have h6 := Bases.rk_mono (B := B) h5
    omega

section
variable {A B : Nat → Nat} {n m rho : Nat} {K : Nat → Bool} {c : Nat} {f : Nat → Nat}

/-- how e's ends differ. -/
def dx (A B : Nat → Nat) (p : Nat → Int) (e : Nat) : Int := p (A e) - p (B e)
def bx (A B : Nat → Nat) (p : Nat → Bool) (e : Nat) : Bool := xor (p (A e)) (p (B e))

theorem dx_comb (p q : Nat → Int) (a b : Int) (e : Nat) : dx A B (fun v => a * p v + b * q v) e = a * dx A B p e + b * dx A B q e := by
  unfold dx; show a * p (A e) + b * q (A e) - (a * p (B e) + b * q (B e)) = _; rw [Int.mul_sub, Int.mul_sub]; omega
theorem bx_comb (p q : Nat → Bool) (e : Nat) : bx A B (fun v => xor (p v) (q v)) e = xor (bx A B p e) (bx A B q e) := by
  unfold bx; show xor (xor (p (A e)) (q (A e))) (xor (p (B e)) (q (B e))) = _; generalize p (A e) = a, p (B e) = b, q (A e) = c, q (B e) = d; cases a <;> cases b <;> cases c <;> cases d <;> rfl

/-- colours that tell no element of c. -/
def Tri (A B : Nat → Nat) (c : Nat) (p : Nat → Int) : Prop := ∀ e, c.testBit e = true → dx A B p e = 0
def Trb (A B : Nat → Nat) (c : Nat) (p : Nat → Bool) : Prop := ∀ e, c.testBit e = true → bx A B p e = false

theorem Tri.comb {p q : Nat → Int} (hp : Tri A B c p) (hq : Tri A B c q) (a b : Int) : Tri A B c (fun v => a * p v + b * q v) := fun e he => by
  rw [dx_comb, hp e he, hq e he]; simp
theorem Trb.comb {p q : Nat → Bool} (hp : Trb A B c p) (hq : Trb A B c q) : Trb A B c (fun v => xor (p v) (q v)) := fun e he => by
  rw [bx_comb, hp e he, hq e he]; rfl

theorem bx_false {p : Nat → Bool} {e : Nat} : bx A B p e = false ↔ p (A e) = p (B e) := by
  unfold bx; generalize p (A e) = a, p (B e) = b; cases a <;> cases b <;> simp

theorem bits_c {l : List Nat} {g : Nat} (h : (c ||| img f m (mask l)).testBit g = true) : c.testBit g = true ∨ ∃ j, j ∈ l ∧ f j = g := by
  rw [Nat.testBit_or, Bool.or_eq_true] at h
  rcases h with h | h
  · exact .inl h
  · obtain ⟨j, _, h2, h3⟩ := (testBit_img f _ g m).1 h
    exact .inr ⟨j, (testBit_mask j l).1 h2, h3⟩

theorem not_clb {l : List Nat} {j : Nat} (hl : ∀ k, k ∈ l → k < m) (h : ¬ gcl A B (c ||| img f m (mask l)) (f j)) : ∃ p, Trb A B c p ∧ (∀ t, t ∈ l → bx A B p (f t) = false) ∧ bx A B p (f j) = true := by
  simp only [gcl, Classical.not_forall] at h
  obtain ⟨p, hp, hne⟩ := h
  refine ⟨p, fun e he => bx_false.2 (hp e (by simp [he])), fun t ht => bx_false.2 (hp _ ?_), ?_⟩
  · rw [Nat.testBit_or, Bool.or_eq_true]
    exact .inr ((testBit_img f _ _ m).2 ⟨t, hl t ht, (testBit_mask t l).2 ht, rfl⟩)
  · cases hb : bx A B p (f j) with
    | true => rfl
    | false => exact absurd (bx_false.1 hb) hne

theorem not_cli {l : List Nat} {j : Nat} (hl : ∀ k, k ∈ l → k < m) (h : ¬ gcl A B (c ||| img f m (mask l)) (f j)) : ∃ p, Tri A B c p ∧ (∀ t, t ∈ l → dx A B p (f t) = 0) ∧ dx A B p (f j) ≠ 0 := by
  obtain ⟨p, h1, h2, h3⟩ := not_clb hl h
  have key : ∀ e, bx A B p e = false → dx A B (fun v => if p v = true then 1 else 0) e = 0 := fun e he => by
    unfold dx; simp only [bx_false.1 he]; omega
  refine ⟨fun v => if p v = true then 1 else 0, fun e he => key e (h1 e he), fun t ht => key _ (h2 t ht), ?_⟩
  show (if p (A (f j)) = true then (1 : Int) else 0) - (if p (B (f j)) = true then 1 else 0) ≠ 0
  revert h3
  unfold bx
  generalize p (A (f j)) = a, p (B (f j)) = b
  cases a <;> cases b <;> simp

theorem clb {l : List Nat} {j : Nat} (h : gcl A B (c ||| img f m (mask l)) (f j)) {p : Nat → Bool} (hp : Trb A B c p) (hl : ∀ t, t ∈ l → bx A B p (f t) = false) : bx A B p (f j) = false := by
  refine bx_false.2 (h p fun g hg => ?_)
  rcases bits_c hg with h1 | ⟨t, ht, rfl⟩
  · exact bx_false.1 (hp g h1)
  · exact bx_false.1 (hl t ht)

theorem cli {l : List Nat} {j : Nat} (h : gcl A B (c ||| img f m (mask l)) (f j)) {p : Nat → Int} (hp : Tri A B c p) (hl : ∀ t, t ∈ l → dx A B p (f t) = 0) : dx A B p (f j) = 0 := by
  have := gcl_any h p fun g hg => ?_
  · unfold dx; omega
  · rcases bits_c hg with h1 | ⟨t, ht, rfl⟩
    · have := hp g h1; unfold dx at this; omega
    · have := hl t ht; unfold dx at this; omega

/-- the bases of four elements of which any two are one. -/
def u24 (S : Nat) : Bool := decide (pop S = 2)

theorem no_u24_told (h : Told n 4 2 u24 (gcl A B) c f) : False := by
  have hb : ∀ i j, i < 4 → j < 4 → i ≠ j → ∃ p, Trb A B c p ∧ bx A B p (f i) = false ∧ bx A B p (f j) = true := fun i j hi hj hij => by
    have hn : (j :: [i]).Nodup := by simp; omega
    have hl : ∀ k, k ∈ j :: [i] → k < 4 := fun k hk => by simp at hk; omega
    obtain ⟨p, h1, h2, h3⟩ := not_clb (fun k hk => by simp at hk; omega) (h.bas [i] j hn hl rfl (by unfold u24; rw [pop_mask _ hn (fun k hk => by have := hl k hk; omega)]; rfl))
    exact ⟨p, h1, h2 i (by simp), h3⟩
  have hf : ∀ p, Trb A B c p → bx A B p (f 0) = false → bx A B p (f 1) = false → ∀ j, j < 4 → bx A B p (f j) = false := fun p hp h0 h1 j hj =>
    clb (h.full [0, 1] j (by decide) (fun k hk => by simp at hk; omega) rfl (by decide) hj) hp fun t ht => by
      simp at ht; rcases ht with rfl | rfl
      · exact h0
      · exact h1
  obtain ⟨p, hp, p0, p1⟩ := hb 0 1 (by omega) (by omega) (by omega)
  obtain ⟨q, hq, q1, q0⟩ := hb 1 0 (by omega) (by omega) (by omega)
  -- each further element hangs on both
  have hpj : ∀ j, j < 4 → j ≠ 0 → bx A B p (f j) = true := fun j hj hne => by
    obtain ⟨k, hk, k0, kj⟩ := hb 0 j (by omega) hj (fun e => hne e.symm)
    cases k1 : bx A B k (f 1) with
    | false => rw [hf k hk k0 k1 j hj] at kj; exact absurd kj (by decide)
    | true =>
      have := hf _ (hk.comb hp) (by rw [bx_comb, k0, p0]; rfl) (by rw [bx_comb, k1, p1]; rfl) j hj
      rw [bx_comb, kj] at this
      revert this; cases bx A B p (f j) <;> simp
  have hqj : ∀ j, j < 4 → j ≠ 1 → bx A B q (f j) = true := fun j hj hne => by
    obtain ⟨k, hk, k1, kj⟩ := hb 1 j (by omega) hj (fun e => hne e.symm)
    cases k0 : bx A B k (f 0) with
    | false => rw [hf k hk k0 k1 j hj] at kj; exact absurd kj (by decide)
    | true =>
      have := hf _ (hk.comb hq) (by rw [bx_comb, k0, q0]; rfl) (by rw [bx_comb, k1, q1]; rfl) j hj
      rw [bx_comb, kj] at this
      revert this; cases bx A B q (f j) <;> simp
  obtain ⟨k, hk, k2, k3⟩ := hb 2 3 (by omega) (by omega) (by omega)
  have p2 := hpj 2 (by omega) (by omega)
  have p3 := hpj 3 (by omega) (by omega)
  have q2 := hqj 2 (by omega) (by omega)
  have q3 := hqj 3 (by omega) (by omega)
  cases k0 : bx A B k (f 0) with
  | false => cases k1 : bx A B k (f 1) with
    | false => rw [hf k hk k0 k1 3 (by omega)] at k3; exact absurd k3 (by decide)
    | true =>
      have := hf _ (hk.comb hp) (by rw [bx_comb, k0, p0]; rfl) (by rw [bx_comb, k1, p1]; rfl) 2 (by omega)
      rw [bx_comb, k2, p2] at this; exact absurd this (by decide)
  | true => cases k1 : bx A B k (f 1) with
    | false =>
      have := hf _ (hk.comb hq) (by rw [bx_comb, k0, q0]; rfl) (by rw [bx_comb, k1, q1]; rfl) 2 (by omega)
      rw [bx_comb, k2, q2] at this; exact absurd this (by decide)
    | true =>
      have := hf _ ((hk.comb hp).comb hq) (by rw [bx_comb, bx_comb, k0, p0, q0]; rfl) (by rw [bx_comb, bx_comb, k1, p1, q1]; rfl) 3 (by omega)
      rw [bx_comb, bx_comb, k3, p3, q3] at this; exact absurd this (by decide)

/-- the lines of FANO's plane. -/
def lines : List Nat := [11, 22, 44, 88, 49, 98, 69]
def fano (S : Nat) : Bool := decide (pop S = 3) && !lines.contains S
def fanoD (S : Nat) : Bool := decide (pop S = 4) && !lines.contains (127 ^^^ S)

/-- coordinates of a plane that has all of these lines: twice a product is nought. -/
theorem coords {p q r s t u v w z : Int} (h1 : q * v = p * w) (h2 : s * w = r * z) (h3 : u * v = t * z) (h4 : q * s * t + p * r * u = 0) (hp : p ≠ 0) (hr : r ≠ 0) (ht : t ≠ 0) (hz : z ≠ 0) : False := by
  have e : (q * s * t + p * r * u) * v = 2 * (p * (r * (t * z))) := by
    have a1 : q * s * t * v = s * t * (q * v) := by ac_rfl
    have a2 : p * r * u * v = p * r * (u * v) := by ac_rfl
    have a3 : s * t * (p * w) = p * t * (s * w) := by ac_rfl
    have a4 : p * t * (r * z) = p * (r * (t * z)) := by ac_rfl
    have a5 : p * r * (t * z) = p * (r * (t * z)) := by simp only [Int.mul_assoc]
    rw [Int.add_mul, a1, a2, h1, h3, a3, h2, a4, a5]; omega
  rw [h4, Int.zero_mul] at e
  have : p * (r * (t * z)) ≠ 0 := Int.mul_ne_zero hp (Int.mul_ne_zero hr (Int.mul_ne_zero ht hz))
  omega

/-- a basis' coordinate of an element that may stand in its element's place is not nought. -/
theorem coord_ne (h : Told n m rho K (gcl A B) c f) {i : Nat} {l : List Nat} (hn : (i :: l).Nodup) (hl : ∀ k, k ∈ i :: l → k < m) (hrho : l.length + 1 = rho) (hK : K (mask (i :: l)) = true)
    {p : Nat → Int} (hp : Tri A B c p) (hpl : ∀ t, t ∈ l → dx A B p (f t) = 0) (hpi : dx A B p (f i) ≠ 0) {j : Nat} (hj : j < m) (hn2 : (j :: l).Nodup) (hK2 : K (mask (j :: l)) = true) : dx A B p (f j) ≠ 0 := by
  have hll : ∀ k, k ∈ l → k < m := fun k hk => hl k (by simp [hk])
  obtain ⟨k, hk, k1, k2⟩ := not_cli hll (h.bas l j hn2 (fun k hk => by
    rcases List.mem_cons.1 hk with rfl | hk
    · exact hj
    · exact hll k hk) hrho hK2)
  intro h0
  have := cli (h.full (i :: l) j hn hl (by simpa using hrho) hK hj) (hk.comb hp (dx A B p (f i)) (- dx A B k (f i))) fun t ht => by
    rw [dx_comb]
    rcases List.mem_cons.1 ht with rfl | ht
    · rw [Int.mul_comm, Int.neg_mul]; omega
    · rw [k1 t ht, hpl t ht]; simp
  rw [dx_comb, h0, Int.mul_zero, Int.add_zero] at this
  exact Int.mul_ne_zero hpi k2 this

/-- a closed list of conditions of 'bas', 'dep'. -/
def okB (K : Nat → Bool) (m rho : Nat) (l : List Nat) (j : Nat) : Bool := decide ((j :: l).Nodup) && (j :: l).all (fun k => decide (k < m)) && decide (l.length + 1 = rho) && K (mask (j :: l))
def okD (K : Nat → Bool) (m rho : Nat) (l : List Nat) (k j : Nat) : Bool := okB K m rho l k && decide ((j :: l).Nodup) && decide (j < m) && !K (mask (j :: l))

theorem bas_i (h : Told n m rho K (gcl A B) c f) (l : List Nat) (j : Nat) (ho : okB K m rho l j = true) : ∃ p, Tri A B c p ∧ (∀ t, t ∈ l → dx A B p (f t) = 0) ∧ dx A B p (f j) ≠ 0 := by
  simp only [okB, Bool.and_eq_true, decide_eq_true_eq, List.all_eq_true] at ho
  obtain ⟨⟨⟨h1, h2⟩, h3⟩, h4⟩ := ho
  exact not_cli (fun k hk => h2 k (by simp [hk])) (h.bas l j h1 h2 h3 h4)

theorem dep_i (h : Told n m rho K (gcl A B) c f) (l : List Nat) (k j : Nat) (ho : okD K m rho l k j = true) {p : Nat → Int} (hp : Tri A B c p) (hl : ∀ t, t ∈ l → dx A B p (f t) = 0) : dx A B p (f j) = 0 := by
  simp only [okD, okB, Bool.and_eq_true, decide_eq_true_eq, List.all_eq_true, Bool.not_eq_true'] at ho
  obtain ⟨⟨⟨⟨⟨⟨h1, h2⟩, h3⟩, h4⟩, h5⟩, h6⟩, h7⟩ := ho
  exact cli (h.dep l k j h1 h5 h2 h6 h3 h4 h7) hp hl

theorem ne_i (h : Told n m rho K (gcl A B) c f) (l : List Nat) (i j : Nat) (ho : (okB K m rho l i && okB K m rho l j) = true) {p : Nat → Int} (hp : Tri A B c p) (hl : ∀ t, t ∈ l → dx A B p (f t) = 0) (hi : dx A B p (f i) ≠ 0) : dx A B p (f j) ≠ 0 := by
  simp only [okB, Bool.and_eq_true, decide_eq_true_eq, List.all_eq_true] at ho
  obtain ⟨⟨⟨⟨h1, h2⟩, h3⟩, h4⟩, ⟨⟨h5, h6⟩, _⟩, h8⟩ := ho
  exact coord_ne h h1 h2 h3 h4 hp hl hi (h6 j (by simp)) h5 h8

theorem no_fano_told (h : Told n 7 3 fano (gcl A B) c f) : False := by
  obtain ⟨a, ha, a0, an⟩ := bas_i h [1, 2] 0 (by decide)
  obtain ⟨b, hb, b0, bn⟩ := bas_i h [0, 2] 1 (by decide)
  obtain ⟨d, hd, d0, dn⟩ := bas_i h [0, 1] 2 (by decide)
  have d3 := dep_i h [0, 1] 2 3 (by decide) hd d0
  have a4 := dep_i h [1, 2] 0 4 (by decide) ha a0
  have b6 := dep_i h [0, 2] 1 6 (by decide) hb b0
  have p0 := ne_i h [1, 2] 0 3 (by decide) ha a0 an
  have r0 := ne_i h [0, 2] 1 4 (by decide) hb b0 bn
  have t0 := ne_i h [1, 2] 0 6 (by decide) ha a0 an
  have z0 := ne_i h [0, 1] 2 5 (by decide) hd d0 dn
  have e1 := dep_i h [2, 3] 0 5 (by decide) (ha.comb hb (dx A B b (f 3)) (- dx A B a (f 3))) (fun t ht => by
    rw [dx_comb]
    simp only [List.mem_cons, List.not_mem_nil, or_false] at ht
    rcases ht with rfl | rfl
    · rw [a0 2 (by decide), b0 2 (by decide)]; simp
    · rw [Int.mul_comm, Int.neg_mul]; omega)
  have e2 := dep_i h [0, 4] 1 5 (by decide) (hb.comb hd (dx A B d (f 4)) (- dx A B b (f 4))) (fun t ht => by
    rw [dx_comb]
    simp only [List.mem_cons, List.not_mem_nil, or_false] at ht
    rcases ht with rfl | rfl
    · rw [b0 0 (by decide), d0 0 (by decide)]; simp
    · rw [Int.mul_comm, Int.neg_mul]; omega)
  have e3 := dep_i h [1, 6] 0 5 (by decide) (ha.comb hd (dx A B d (f 6)) (- dx A B a (f 6))) (fun t ht => by
    rw [dx_comb]
    simp only [List.mem_cons, List.not_mem_nil, or_false] at ht
    rcases ht with rfl | rfl
    · rw [a0 1 (by decide), d0 1 (by decide)]; simp
    · rw [Int.mul_comm, Int.neg_mul]; omega)
  have e4 := dep_i h [3, 4] 0 6 (by decide) ((ha.comb hb (dx A B b (f 3) * dx A B d (f 4)) (- (dx A B a (f 3) * dx A B d (f 4)))).comb hd 1 (dx A B a (f 3) * dx A B b (f 4))) (fun t ht => by
    rw [dx_comb, dx_comb]
    simp only [List.mem_cons, List.not_mem_nil, or_false] at ht
    rcases ht with rfl | rfl
    · rw [d3]
      have : dx A B b (f 3) * dx A B d (f 4) * dx A B a (f 3) = dx A B a (f 3) * dx A B d (f 4) * dx A B b (f 3) := by ac_rfl
      rw [this, Int.neg_mul]; omega
    · rw [a4]
      have : dx A B a (f 3) * dx A B d (f 4) * dx A B b (f 4) = dx A B a (f 3) * dx A B b (f 4) * dx A B d (f 4) := by ac_rfl
      rw [Int.neg_mul, this]; omega)
  rw [dx_comb, Int.neg_mul] at e1 e2 e3
  rw [dx_comb, dx_comb, b6, Int.mul_zero, Int.add_zero, Int.one_mul] at e4
  exact coords (p := dx A B a (f 3)) (q := dx A B b (f 3)) (r := dx A B b (f 4)) (s := dx A B d (f 4)) (t := dx A B a (f 6)) (u := dx A B d (f 6)) (v := dx A B a (f 5)) (w := dx A B b (f 5)) (z := dx A B d (f 5)) (by omega) (by omega) (by omega) e4 p0 r0 t0 z0

theorem no_fanoD_told (h : Told n 7 4 fanoD (gcl A B) c f) : False := by
  obtain ⟨a, ha, a0, an⟩ := bas_i h [4, 5, 6] 3 (by decide)
  obtain ⟨b, hb, b0, bn⟩ := bas_i h [3, 5, 6] 4 (by decide)
  obtain ⟨d, hd, d0, dn⟩ := bas_i h [3, 4, 6] 5 (by decide)
  obtain ⟨e, he, e0, en⟩ := bas_i h [3, 4, 5] 6 (by decide)
  have x40 := dep_i h [3, 5, 6] 4 0 (by decide) hb b0
  have x61 := dep_i h [3, 4, 5] 6 1 (by decide) he e0
  have x32 := dep_i h [4, 5, 6] 3 2 (by decide) ha a0
  have p0 := ne_i h [4, 5, 6] 3 0 (by decide) ha a0 an
  have r0 := ne_i h [3, 5, 6] 4 1 (by decide) hb b0 bn
  have t0 := ne_i h [3, 4, 5] 6 0 (by decide) he e0 en
  have z0 := ne_i h [3, 4, 6] 5 2 (by decide) hd d0 dn
  have e1 := dep_i h [0, 4, 6] 3 1 (by decide) (ha.comb hd (dx A B d (f 0)) (- dx A B a (f 0))) (fun t ht => by
    rw [dx_comb]
    simp only [List.mem_cons, List.not_mem_nil, or_false] at ht
    rcases ht with rfl | rfl | rfl
    · rw [Int.mul_comm, Int.neg_mul]; omega
    · rw [a0 4 (by decide), d0 4 (by decide)]; simp
    · rw [a0 6 (by decide), d0 6 (by decide)]; simp)
  have e2 := dep_i h [1, 3, 6] 4 2 (by decide) (hb.comb hd (dx A B d (f 1)) (- dx A B b (f 1))) (fun t ht => by
    rw [dx_comb]
    simp only [List.mem_cons, List.not_mem_nil, or_false] at ht
    rcases ht with rfl | rfl | rfl
    · rw [Int.mul_comm, Int.neg_mul]; omega
    · rw [b0 3 (by decide), d0 3 (by decide)]; simp
    · rw [b0 6 (by decide), d0 6 (by decide)]; simp)
  have e3 := dep_i h [0, 3, 4] 5 2 (by decide) (he.comb hd (dx A B d (f 0)) (- dx A B e (f 0))) (fun t ht => by
    rw [dx_comb]
    simp only [List.mem_cons, List.not_mem_nil, or_false] at ht
    rcases ht with rfl | rfl | rfl
    · rw [Int.mul_comm, Int.neg_mul]; omega
    · rw [e0 3 (by decide), d0 3 (by decide)]; simp
    · rw [e0 4 (by decide), d0 4 (by decide)]; simp)
  have e4 := dep_i h [0, 1, 5] 3 2 (by decide) ((ha.comb hb (dx A B e (f 0) * dx A B b (f 1)) (- (dx A B e (f 0) * dx A B a (f 1)))).comb he 1 (- (dx A B a (f 0) * dx A B b (f 1)))) (fun t ht => by
    rw [dx_comb, dx_comb]
    simp only [List.mem_cons, List.not_mem_nil, or_false] at ht
    rcases ht with rfl | rfl | rfl
    · rw [x40]
      have : dx A B e (f 0) * dx A B b (f 1) * dx A B a (f 0) = dx A B a (f 0) * dx A B b (f 1) * dx A B e (f 0) := by ac_rfl
      rw [this, Int.neg_mul, Int.neg_mul]; omega
    · rw [x61]
      have : dx A B e (f 0) * dx A B b (f 1) * dx A B a (f 1) = dx A B e (f 0) * dx A B a (f 1) * dx A B b (f 1) := by ac_rfl
      rw [this, Int.neg_mul]; omega
    · rw [a0 5 (by decide), b0 5 (by decide), e0 5 (by decide)]; simp)
  rw [dx_comb, Int.neg_mul] at e1 e2 e3
  rw [dx_comb, dx_comb, x32, Int.mul_zero, Int.zero_add, Int.one_mul, Int.neg_mul, Int.neg_mul] at e4
  refine coords (p := dx A B a (f 0)) (q := dx A B a (f 1)) (r := dx A B b (f 1)) (s := dx A B b (f 2)) (t := dx A B e (f 0)) (u := dx A B e (f 2)) (v := dx A B d (f 0)) (w := dx A B d (f 1)) (z := dx A B d (f 2)) ?_ ?_ ?_ ?_ p0 r0 t0 z0
  · rw [Int.mul_comm]; omega
  · rw [Int.mul_comm]; omega
  · rw [Int.mul_comm]; omega
  · have : dx A B a (f 1) * dx A B b (f 2) * dx A B e (f 0) = dx A B e (f 0) * dx A B a (f 1) * dx A B b (f 2) := by ac_rfl
    rw [this]; omega
end

/-- GRAPHS have none of these as a minor. -/
theorem graph_no {A B : Nat → Nat} {n : Nat} {Bs : List Nat} (hB : Bases n (Free n (gcl A B)) Bs) :
    ¬ HasMinor (rk Bs) n 4 2 u24 ∧ ¬ HasMinor (rk Bs) n 7 3 fano ∧ ¬ HasMinor (rk Bs) n 7 4 fanoD := by
  refine ⟨?_, ?_, ?_⟩
  · rintro ⟨c, f, h1, h2, _, _, h5, h6⟩
    exact no_u24_told (told (gcl_closure A B) hB (by decide) h1 h2 h5 h6)
  · rintro ⟨c, f, h1, h2, _, _, h5, h6⟩
    exact no_fano_told (told (gcl_closure A B) hB (by decide) h1 h2 h5 h6)
  · rintro ⟨c, f, h1, h2, _, _, h5, h6⟩
    exact no_fanoD_told (told (gcl_closure A B) hB (by decide) h1 h2 h5 h6)

/-- what all have beside s. -/
theorem rk_dual {n : Nat} {B D : List Nat} (h : Exch n B) (hD : ∀ b, b ∈ D ↔ ∃ a, a ∈ B ∧ b = dif (2 ^ n - 1) a) {s : Nat} (hs : s < 2 ^ n) :
    rk D s + rk B (2 ^ n - 1) = pop s + rk B (dif (2 ^ n - 1) s) := by
  have hsub := sub_full hs
  -- of each basis: what s has of it, and what s has not
  have e1 : ∀ a, a ∈ B → pop (s &&& a) + pop (dif (2 ^ n - 1) s &&& a) = pop a := fun a ha => by
    have h1 := pop_or_and (s &&& a) (dif (2 ^ n - 1) s &&& a)
    have h2 : (s &&& a) &&& (dif (2 ^ n - 1) s &&& a) = 0 := Nat.eq_of_testBit_eq fun i => by
      rw [Nat.testBit_and, Nat.testBit_and, Nat.testBit_and, testBit_dif, Nat.zero_testBit]; cases s.testBit i <;> cases a.testBit i <;> simp
    have h3 : (s &&& a) ||| (dif (2 ^ n - 1) s &&& a) = a := Nat.eq_of_testBit_eq fun i => by
      rw [Nat.testBit_or, Nat.testBit_and, Nat.testBit_and, testBit_dif]
      have := sub_full (h.lt a ha) i
      revert this; cases s.testBit i <;> cases a.testBit i <;> cases (2 ^ n - 1).testBit i <;> simp
    rw [h2, h3, pop_zero] at h1; omega
  have e2 : ∀ a, a ∈ B → pop (s &&& dif (2 ^ n - 1) a) + pop (s &&& a) = pop s := fun a ha => by
    have h1 := pop_or_and (s &&& dif (2 ^ n - 1) a) (s &&& a)
    have h2 : (s &&& dif (2 ^ n - 1) a) &&& (s &&& a) = 0 := Nat.eq_of_testBit_eq fun i => by
      rw [Nat.testBit_and, Nat.testBit_and, Nat.testBit_and, testBit_dif, Nat.zero_testBit]; cases s.testBit i <;> cases a.testBit i <;> simp
    have h3 : (s &&& dif (2 ^ n - 1) a) ||| (s &&& a) = s := Nat.eq_of_testBit_eq fun i => by
      rw [Nat.testBit_or, Nat.testBit_and, Nat.testBit_and, testBit_dif]
      have := hsub i
      revert this; cases s.testBit i <;> cases a.testBit i <;> cases (2 ^ n - 1).testBit i <;> simp
    rw [h2, h3, pop_zero] at h1; omega
  have e3 : ∀ a, a ∈ B → (2 ^ n - 1) &&& a = a := fun a ha => Nat.eq_of_testBit_eq fun i => by
    rw [Nat.testBit_and]
    have := sub_full (h.lt a ha) i
    revert this; cases a.testBit i <;> cases (2 ^ n - 1).testBit i <;> simp
  have hneD : D ≠ [] := by
    obtain ⟨a, ha⟩ := List.exists_mem_of_ne_nil _ h.ne
    intro e
    have := (hD _).2 ⟨a, ha, rfl⟩
    rw [e] at this; exact absurd this (by simp)
  have hR : ∀ a, a ∈ B → rk B (2 ^ n - 1) = pop a := fun a ha => by
    obtain ⟨b, hb, e⟩ := rk_mem (2 ^ n - 1) h.ne
    rw [e, e3 b hb]; exact h.same b a hb ha
  refine Nat.le_antisymm ?_ ?_
  · obtain ⟨b, hb, e⟩ := rk_mem s hneD
    obtain ⟨a, ha, rfl⟩ := (hD b).1 hb
    have := le_rk (dif (2 ^ n - 1) s) ha
    have := e1 a ha; have := e2 a ha; have := hR a ha
    omega
  · obtain ⟨a, ha, e⟩ := rk_mem (dif (2 ^ n - 1) s) h.ne
    have := le_rk s ((hD _).2 ⟨a, ha, rfl⟩)
    have := e1 a ha; have := e2 a ha; have := hR a ha
    omega

theorem pop_img {f : Nat → Nat} {n m : Nat} (hn : n ≤ 8) (hf : ∀ j, j < m → f j < n) (hi : ∀ i j, i < m → j < m → f i = f j → i = j) (S : Nat) : ∀ k, k ≤ m → pop (img f k S) = (List.range k).countP fun i => S.testBit i
  | 0, _ => by simp [img, pop_zero]
  | k + 1, hk => by
    have ih := pop_img hn hf hi S k (by omega)
    rw [List.range_succ, List.countP_append, ← ih]
    by_cases h : S.testBit k = true
    · rw [img, if_pos h, pop_add (Nat.lt_of_lt_of_le (hf k (by omega)) hn)]
      · simp [h]
      · cases hb : (img f k S).testBit (f k) with
        | false => rfl
        | true =>
          obtain ⟨j, h1, _, h3⟩ := (testBit_img f S _ k).1 hb
          have := hi j k (by omega) (by omega) h3; omega
    · rw [img, if_neg h]; simp [h]

theorem pop_range {m S : Nat} (hm : m ≤ 8) (hS : S < 2 ^ m) : (List.range m).countP (fun i => S.testBit i) = pop S := by
  unfold pop
  obtain ⟨d, hd⟩ : ∃ d, 8 = m + d := ⟨8 - m, by omega⟩
  rw [hd, List.range_add, List.countP_append]
  have : (List.map (fun x => m + x) (List.range d)).countP (fun i => S.testBit i) = 0 := by
    rw [List.countP_eq_zero]
    intro i hi
    rw [List.mem_map] at hi
    obtain ⟨j, _, rfl⟩ := hi
    rw [Nat.testBit_lt_two_pow (Nat.lt_of_lt_of_le hS (Nat.pow_le_pow_right (by decide) (by omega)))]; decide
  omega

/-- minors of the dual: the same elements, what else there was being contracted; complements. -/
theorem minor_dual {n m rho : Nat} {B D : List Nat} {K : Nat → Bool} (h : Exch n B) (hm : m ≤ 8) (hD : ∀ b, b ∈ D ↔ ∃ a, a ∈ B ∧ b = dif (2 ^ n - 1) a) (hmin : HasMinor (rk D) n m rho K) :
    rho ≤ m ∧ HasMinor (rk B) n m (m - rho) fun S => K (dif (2 ^ m - 1) S) := by
  obtain ⟨c, f, hc, hf, hi, hcf, hall, hK⟩ := hmin
  have hfull : 2 ^ m - 1 < 2 ^ m := by have := Nat.two_pow_pos m; omega
  have himg : ∀ S, img f m S < 2 ^ n := fun S => Nat.lt_pow_two_of_testBit _ fun i hi' => by
    cases hb : (img f m S).testBit i with
    | false => rfl
    | true => obtain ⟨j, h1, _, h3⟩ := (testBit_img f S i m).1 hb; have := hf j h1; omega
  have hlt : ∀ S, c ||| img f m S < 2 ^ n := fun S => Nat.or_lt_two_pow hc (himg S)
  have hpop : ∀ S, S < 2 ^ m → pop (c ||| img f m S) = pop c + pop S := fun S hS => by
    have h1 := pop_or_and c (img f m S)
    have h2 : c &&& img f m S = 0 := Nat.eq_of_testBit_eq fun i => by
      rw [Nat.testBit_and, Nat.zero_testBit]
      cases hb : (img f m S).testBit i with
      | false => simp
      | true => obtain ⟨j, h1, _, rfl⟩ := (testBit_img f S i m).1 hb; rw [hcf j h1]; rfl
    have h3 := pop_img h.small hf hi S m (Nat.le_refl _)
    rw [pop_range hm hS] at h3
    rw [h2, pop_zero] at h1; omega
  have hcompl : ∀ S, S < 2 ^ m → dif (2 ^ n - 1) (c ||| img f m (dif (2 ^ m - 1) S)) = dif (2 ^ n - 1) (c ||| img f m (2 ^ m - 1)) ||| img f m S := fun S hS => by
    refine Nat.eq_of_testBit_eq fun i => ?_
    rw [Bool.eq_iff_iff]
    simp only [testBit_dif, Nat.testBit_or, Bool.and_eq_true, Bool.or_eq_true, Bool.not_eq_true', Bool.or_eq_false_iff]
    constructor
    · rintro ⟨h1, h2, h3⟩
      cases hb : (img f m S).testBit i with
      | true => exact .inr rfl
      | false =>
        refine .inl ⟨h1, h2, ?_⟩
        cases hb2 : (img f m (2 ^ m - 1)).testBit i with
        | false => rfl
        | true =>
          obtain ⟨j, g1, g2, g3⟩ := (testBit_img f _ i m).1 hb2
          cases hj : S.testBit j with
          | true => rw [(testBit_img f S i m).2 ⟨j, g1, hj, g3⟩] at hb; exact absurd hb (by decide)
          | false =>
            have : (img f m (dif (2 ^ m - 1) S)).testBit i = true := (testBit_img f _ i m).2 ⟨j, g1, by rw [testBit_dif, g2, hj]; rfl, g3⟩
            rw [h3] at this; exact absurd this (by decide)
    · rintro (⟨h1, h2, h3⟩ | h1)
      · refine ⟨h1, h2, ?_⟩
        cases hb : (img f m (dif (2 ^ m - 1) S)).testBit i with
        | false => rfl
        | true =>
          obtain ⟨j, g1, g2, g3⟩ := (testBit_img f _ i m).1 hb
          rw [testBit_dif, Bool.and_eq_true] at g2
          rw [(testBit_img f _ i m).2 ⟨j, g1, g2.1, g3⟩] at h3; exact absurd h3 (by decide)
      · obtain ⟨j, g1, g2, g3⟩ := (testBit_img f S i m).1 h1
        subst g3
        refine ⟨?_, hcf j g1, ?_⟩
        · rw [Nat.testBit_two_pow_sub_one, decide_eq_true_eq]; exact hf j g1
        · cases hb : (img f m (dif (2 ^ m - 1) S)).testBit (f j) with
          | false => rfl
          | true =>
            obtain ⟨k, k1, k2, k3⟩ := (testBit_img f _ _ m).1 hb
            have := hi k j k1 g1 k3
            subst this
            rw [testBit_dif, g2] at k2; simp at k2
  have hdz : dif (2 ^ m - 1) (2 ^ m - 1) = 0 := Nat.eq_of_testBit_eq fun i => by rw [testBit_dif, Nat.zero_testBit]; cases (2 ^ m - 1).testBit i <;> rfl
  have hdd : ∀ S, S < 2 ^ m → dif (2 ^ m - 1) (dif (2 ^ m - 1) S) = S := fun S hS => Nat.eq_of_testBit_eq fun i => by
    rw [testBit_dif, testBit_dif]
    have := sub_full hS i
    revert this; cases S.testBit i <;> cases (2 ^ m - 1).testBit i <;> simp
  have hdlt : ∀ S, dif (2 ^ m - 1) S < 2 ^ m := fun S => lt_of_sub (fun i hi' => by simp at hi'; exact by rw [Nat.testBit_two_pow_sub_one]; simpa using hi'.1) hfull
  have himg0 : img f m 0 = 0 := Nat.eq_of_testBit_eq fun i => by
    rw [Nat.zero_testBit]
    cases hb : (img f m 0).testBit i with
    | false => rfl
    | true => obtain ⟨j, _, h2, _⟩ := (testBit_img f _ i m).1 hb; simp at h2
  obtain ⟨c', hc'⟩ : ∃ c', c' = dif (2 ^ n - 1) (c ||| img f m (2 ^ m - 1)) := ⟨_, rfl⟩
  -- the dual's ranks
  have hd : ∀ S, S < 2 ^ m → rk D (c ||| img f m (dif (2 ^ m - 1) S)) + rk B (2 ^ n - 1) = pop c + pop (dif (2 ^ m - 1) S) + rk B (c' ||| img f m S) := fun S hS => by
    rw [rk_dual h hD (hlt _), hpop _ (hdlt S), hcompl S hS, ← hc']
  have hpc : ∀ S, S < 2 ^ m → pop (dif (2 ^ m - 1) S) + pop S = pop (2 ^ m - 1) := fun S hS => pop_dif (sub_full hS)
  have hpm : pop (2 ^ m - 1) = m := by
    rw [← pop_range hm hfull]
    have : (List.range m).countP (fun i => (2 ^ m - 1).testBit i) = (List.range m).length := by
      rw [List.countP_eq_length]
      intro i hi'
      rw [Nat.testBit_two_pow_sub_one]; simpa using hi'
    rw [this, List.length_range]
  have d0 := hd 0 (Nat.two_pow_pos m)
  have d1 := hd (2 ^ m - 1) hfull
  have e0 : dif (2 ^ m - 1) 0 = 2 ^ m - 1 := Nat.eq_of_testBit_eq fun i => by rw [testBit_dif, Nat.zero_testBit]; simp
  rw [e0, himg0, Nat.or_zero, hpm] at d0
  rw [hdz, himg0, Nat.or_zero, pop_zero, Nat.add_zero] at d1
  have hle : rho ≤ m := by
    have := rk_or_le D c (img f m (2 ^ m - 1))
    have h3 := pop_img h.small hf hi (2 ^ m - 1) m (Nat.le_refl _)
    rw [pop_range hm hfull, hpm] at h3
    omega
  refine ⟨hle, c', f, ?_, hf, hi, fun j hj => ?_, ?_, fun S hS hp => ?_⟩
  · rw [hc']; exact lt_of_sub (fun i hi' => by simp at hi'; exact by rw [Nat.testBit_two_pow_sub_one]; simpa using hi'.1) (show 2 ^ n - 1 < 2 ^ n by have := Nat.two_pow_pos n; omega)
  · rw [hc', testBit_dif, Nat.testBit_or, (testBit_img f _ _ m).2 ⟨j, hj, by rw [Nat.testBit_two_pow_sub_one]; simpa using hj, rfl⟩]; simp
  · omega
  · have d2 := hd S hS
    have p2 := hpc S hS
    have := hK (dif (2 ^ m - 1) S) (hdlt S) (by omega)
    rw [← this]
    omega

theorem HasMinor.congr {r : Nat → Nat} {n m rho : Nat} {K K' : Nat → Bool} (h : HasMinor r n m rho K) (he : ∀ S, S < 2 ^ m → pop S = rho → K S = K' S) : HasMinor r n m rho K' := by
  obtain ⟨c, f, h1, h2, h3, h4, h5, h6⟩ := h
  exact ⟨c, f, h1, h2, h3, h4, h5, fun S hS hp => by rw [← he S hS hp]; exact h6 S hS hp⟩

/-- nor has a graph's DUAL. -/
theorem dual_no {A E : Nat → Nat} {n : Nat} {B D : List Nat} (hB : Bases n (Free n (gcl A E)) B) (hD : ∀ b, b ∈ D ↔ ∃ a, a ∈ B ∧ b = dif (2 ^ n - 1) a) :
    ¬ HasMinor (rk D) n 4 2 u24 ∧ ¬ HasMinor (rk D) n 7 3 fano ∧ ¬ HasMinor (rk D) n 7 4 fanoD := by
  obtain ⟨g1, g2, g3⟩ := graph_no hB
  refine ⟨fun h => g1 ?_, fun h => g3 ?_, fun h => g2 ?_⟩
  · exact (minor_dual hB.exch (by decide) hD h).2.congr (by decide)
  · exact (minor_dual hB.exch (by decide) hD h).2.congr (by decide)
  · exact (minor_dual hB.exch (by decide) hD h).2.congr (by decide)

end Go.Proofs.Ytkppdmlellmepaa.Mat
