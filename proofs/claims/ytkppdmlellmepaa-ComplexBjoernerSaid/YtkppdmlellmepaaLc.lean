/-
  Plain: sums over sets; a matroid's independent sets, each between one restriction and its basis.
  Plain: the bases of a matroid in the order of their elements: a shelling; its restrictions part the independent sets.
  Plain: the h-vector of a matroid counts restrictions; the rows of its table by Tutte.
-/
import Derived.Test.YtkppdmlellmepaaMatB
import Derived.Test.YtkppdmlellmepaaLexA
namespace Go.Proofs.Ytkppdmlellmepaa.Mat

/-- a sum over a list. -/
def Su {α : Type} (l : List α) (f : α → Int) : Int := l.foldr (fun x m => f x + m) 0
section
variable {α β : Type}
@[simp] theorem Su_nil (f : α → Int) : Su [] f = 0 := rfl
@[simp] theorem Su_cons (a : α) (l : List α) (f : α → Int) : Su (a :: l) f = f a + Su l f := rfl
theorem Su_congr {l : List α} {f g : α → Int} (h : ∀ x, x ∈ l → f x = g x) : Su l f = Su l g := by
  induction l with
  | nil => rfl
  | cons a l ih => rw [Su_cons, Su_cons, h a (by simp), ih fun x hx => h x (by simp [hx])]
theorem Su_add (l : List α) (f g : α → Int) : Su l (fun x => f x + g x) = Su l f + Su l g := by
  induction l with
  | nil => rfl
  | cons a l ih => rw [Su_cons, Su_cons, Su_cons, ih]; omega
theorem Su_zero (l : List α) : Su l (fun _ => 0) = 0 := by
  induction l with
  | nil => rfl
  | cons a l ih => rw [Su_cons, ih]; rfl
theorem Su_mul (l : List α) (c : Int) (f : α → Int) : Su l (fun x => c * f x) = c * Su l f := by
  induction l with
  | nil => simp
  | cons a l ih => rw [Su_cons, Su_cons, ih, Int.mul_add]
theorem Su_swap (l : List α) (m : List β) (f : α → β → Int) : Su l (fun x => Su m (f x)) = Su m (fun y => Su l (fun x => f x y)) := by
  induction l with
  | nil => simp [Su_zero]
  | cons a l ih => rw [Su_cons, ih, ← Su_add]; rfl
theorem Su_append (l m : List α) (f : α → Int) : Su (l ++ m) f = Su l f + Su m f := by
  induction l with
  | nil => simp
  | cons a l ih => rw [List.cons_append, Su_cons, Su_cons, ih]; omega
theorem Su_perm {l m : List α} (h : l.Perm m) (f : α → Int) : Su l f = Su m f := by
  induction h with
  | nil => rfl
  | cons a _ ih => rw [Su_cons, Su_cons, ih]
  | swap a b l => simp only [Su_cons]; omega
  | trans _ _ ih1 ih2 => rw [ih1, ih2]
/-- one element alone counts. -/
theorem Su_one [DecidableEq α] {l : List α} (hl : l.Nodup) {a : α} (ha : a ∈ l) (c : Int) : Su l (fun x => if x = a then c else 0) = c := by
  induction l with
  | nil => simp at ha
  | cons b l ih =>
    rw [Su_cons]
    have hn := (List.nodup_cons.1 hl)
    by_cases e : b = a
    · subst e
      rw [if_pos rfl, Su_congr (g := fun _ => 0) (fun x hx => if_neg (fun e : x = b => hn.1 (e ▸ hx))), Su_zero]
      omega
    · rw [if_neg e, ih hn.2 (by rcases List.mem_cons.1 ha with h | h; exact absurd h.symm e; exact h)]
      omega
end

/-- r within s within b. -/
def btw (r s b : Nat) : Bool := (r &&& s == r) && (s &&& b == s)
theorem sub_iff (a b : Nat) : Sub a b ↔ a &&& b = a := by
  constructor
  · intro h
    refine Nat.eq_of_testBit_eq fun i => ?_
    rw [Nat.testBit_and]
    cases ha : a.testBit i with
    | false => rfl
    | true => rw [h i ha]; rfl
  · intro h i hi
    rw [← h, Nat.testBit_and, Bool.and_eq_true] at hi
    exact hi.2
theorem btw_iff (r s b : Nat) : btw r s b = true ↔ Sub r s ∧ Sub s b := by
  unfold btw
  rw [Bool.and_eq_true, beq_iff_eq, beq_iff_eq, ← sub_iff, ← sub_iff]

/-- m times: a set, and with one more. -/
def Pa (w : Nat → Int) : Nat → Nat → Int
  | 0, t => w t
  | m + 1, t => Pa w m t + Pa w m (t + 1)

theorem nodup_range (n : Nat) : (List.range n).Nodup := List.nodup_range

/-- the sum over all sets between r and b. -/
theorem between (n : Nat) (hn : n ≤ 8) (w : Nat → Int) (m : Nat) : ∀ r b, Sub r b → b < 2 ^ n → pop b = pop r + m → Su (List.range (2 ^ n)) (fun s => if btw r s b = true then w (pop s) else 0) = Pa w m (pop r) := by
  have h256 : ∀ {b}, b < 2 ^ n → b < 256 := fun hb => Nat.lt_of_lt_of_le hb (Nat.pow_le_pow_right (by decide) hn)
  induction m with
  | zero =>
    intro r b hs hb hp
    obtain rfl := sub_eq_of_pop (h256 hb) hs (by omega)
    have : ∀ s, s ∈ List.range (2 ^ n) → (if btw r s r = true then w (pop s) else 0) = if s = r then w (pop r) else 0 := fun s _ => by
      by_cases e : s = r
      · subst e; rw [if_pos ((btw_iff _ _ _).2 ⟨Sub.refl _, Sub.refl _⟩), if_pos rfl]
      · rw [if_neg (fun h => e (by obtain ⟨h1, h2⟩ := (btw_iff _ _ _).1 h; exact eq_of_sub h2 h1)), if_neg e]
    rw [Su_congr this, Su_one (nodup_range _) (List.mem_range.2 hb)]
    rfl
  | succ m ih =>
    intro r b hs hb hp
    obtain ⟨x, hx, hxr⟩ := exists_of_pop_lt (show pop r < pop b by omega)
    have hx8 := lt8_of_testBit (h256 hb) hx
    have hd : ∀ i, (dif b (one x)).testBit i = (b.testBit i && !decide (x = i)) := fun i => by
      unfold dif; rw [Nat.testBit_xor, Nat.testBit_and, testBit_one]; cases b.testBit i <;> cases decide (x = i) <;> rfl
    have ho : ∀ i, (r ||| one x).testBit i = (r.testBit i || decide (x = i)) := fun i => by rw [Nat.testBit_or, testBit_one]
    have s1 : Sub r (dif b (one x)) := fun i hi => by
      rw [hd, hs i hi]
      have : x ≠ i := fun e => by rw [e, hi] at hxr; exact absurd hxr (by decide)
      simp [this]
    have s2 : Sub (r ||| one x) b := fun i hi => by
      rw [ho, Bool.or_eq_true] at hi
      rcases hi with hi | hi
      · exact hs i hi
      · rw [← of_decide_eq_true hi]; exact hx
    have p1 := pop_take hx8 hx
    have p2 := pop_add hx8 hxr
    have i1 := ih r (dif b (one x)) s1 (lt_of_sub (fun i hi => by rw [hd, Bool.and_eq_true] at hi; exact hi.1) hb) (by omega)
    have i2 := ih (r ||| one x) b s2 hb (by omega)
    rw [p2] at i2
    show _ = Pa w m (pop r) + Pa w m (pop r + 1)
    rw [← i1, ← i2, ← Su_add]
    refine Su_congr fun s _ => ?_
    by_cases hsx : s.testBit x = true
    · have e1 : ¬ btw r s (dif b (one x)) = true := fun h => by
        have := ((btw_iff _ _ _).1 h).2 x hsx
        rw [hd] at this; simp at this
      have e2 : btw (r ||| one x) s b = true ↔ btw r s b = true := by
        rw [btw_iff, btw_iff]
        refine ⟨fun h => ⟨fun i hi => h.1 i (by rw [ho, hi]; rfl), h.2⟩, fun h => ⟨fun i hi => ?_, h.2⟩⟩
        rw [ho, Bool.or_eq_true] at hi
        rcases hi with hi | hi
        · exact h.1 i hi
        · rw [← of_decide_eq_true hi]; exact hsx
      rw [if_neg e1]
      by_cases e3 : btw r s b = true
      · rw [if_pos e3, if_pos (e2.2 e3)]; omega
      · rw [if_neg e3, if_neg (fun h => e3 (e2.1 h))]; omega
    · have e1 : ¬ btw (r ||| one x) s b = true := fun h => hsx (((btw_iff _ _ _).1 h).1 x (by rw [ho]; simp))
      have e2 : btw r s (dif b (one x)) = true ↔ btw r s b = true := by
        rw [btw_iff, btw_iff]
        refine ⟨fun h => ⟨h.1, fun i hi => by have := h.2 i hi; rw [hd, Bool.and_eq_true] at this; exact this.1⟩, fun h => ⟨h.1, fun i hi => ?_⟩⟩
        rw [hd, h.2 i hi]
        have : x ≠ i := fun e => hsx (by rw [e]; exact hi)
        simp [this]
      rw [if_neg e1]
      by_cases e3 : btw r s b = true
      · rw [if_pos e3, if_pos (e2.2 e3)]; omega
      · rw [if_neg e3, if_neg (fun h => e3 (e2.1 h))]; omega

/-- how many ways to choose k of n. -/
def ch : Nat → Nat → Nat
  | _, 0 => 1
  | 0, _ + 1 => 0
  | n + 1, k + 1 => ch n k + ch n (k + 1)
/-- -1 to the power of k. -/
def sg (k : Nat) : Int := if k % 2 = 1 then -1 else 1
/-- how much of z to the power of k a face of size m has. -/
def wk (d k m : Nat) : Int := if m ≤ k then sg (k - m) * (ch (d - m) (k - m) : Int) else 0

theorem Pa_wk : ∀ d, d ≤ 8 → ∀ r, r ≤ d → ∀ k, k ≤ d → Pa (wk d k) (d - r) r = if r = k then 1 else 0 := by decide +kernel
theorem wk_row : ∀ d, d ≤ 8 → ∀ i, i ≤ d → ∀ m, m ≤ d → wk d (d - i) m = if i ≤ d - m then sg (d - m - i) * (ch (d - m) i : Int) else 0 := by decide +kernel
theorem ch_alt : ∀ b, b ≤ 8 → Su (List.range (b + 1)) (fun j => sg (b - j) * (ch b j : Int)) = if b = 0 then 1 else 0 := by decide +kernel
end Go.Proofs.Ytkppdmlellmepaa.Mat
namespace Go.Proofs.Ytkppdmlellmepaa
open Mat

/-- b with z for x. -/
def swp (b x z : Nat) : Nat := dif b (Mat.one x) ||| Mat.one z
theorem bit_dif (a b i : Nat) : (dif a b).testBit i = (a.testBit i && !b.testBit i) := by
  unfold dif; rw [Nat.testBit_xor, Nat.testBit_and]; cases a.testBit i <;> cases b.testBit i <;> rfl
theorem bit_swp (b x z i : Nat) : (swp b x z).testBit i = ((b.testBit i && !decide (x = i)) || decide (z = i)) := by
  unfold swp; rw [Nat.testBit_or, bit_dif, testBit_one, testBit_one]

/-- x is of b's restriction: a lesser one may stand for it. -/
def Inn (B : List Nat) (b x : Nat) : Prop := b.testBit x = true ∧ ∃ z, z < x ∧ b.testBit z = false ∧ swp b x z ∈ B

section
variable {n : Nat} {B : List Nat}

theorem lxlt_swp {b x z : Nat} (hz : z < x) (hb : b.testBit z = false) : lxlt (swp b x z) b := by
  refine ⟨z, by rw [bit_swp]; simp, hb, fun j hj => ?_⟩
  rw [bit_swp, decide_eq_false (show ¬ x = j by omega), decide_eq_false (show ¬ z = j by omega)]
  simp

/-- ahead of f: something of f that a lesser one may stand for is not in it. -/
theorem ahead (h : Exch n B) {f g : Nat} (hf : f ∈ B) (hg : g ∈ B) (hl : lxlt g f) : ∃ y z, z < y ∧ f.testBit z = false ∧ f.testBit y = true ∧ g.testBit y = false ∧ swp f y z ∈ B := by
  obtain ⟨z, h1, h2, h3⟩ := hl
  obtain ⟨y, h4, h5, h6⟩ := h.bases.coexchange hf hg h1 h2
  have hzy : z < y := by
    rcases Nat.lt_trichotomy z y with e | e | e
    · exact e
    · subst e; rw [h2] at h4; exact absurd h4 (by decide)
    · rw [h3 y e, h4] at h5; exact absurd h5 (by decide)
  refine ⟨y, z, hzy, h2, h4, h5, ?_⟩
  have e : dif (f ||| Mat.one z) (Mat.one y) = swp f y z := Nat.eq_of_testBit_eq fun i => by
    rw [bit_swp, bit_dif, Nat.testBit_or, testBit_one, testBit_one]
    by_cases e1 : z = i
    · subst e1; rw [decide_eq_false (show ¬ y = z by omega)]; simp
    · rw [decide_eq_false e1]; simp
  rw [← e]; exact h6

/-- an element is of the restriction just where f without it lies in one ahead. -/
theorem inn_iff (h : Exch n B) {f x : Nat} (hf : f ∈ B) : Inn B f x ↔ f.testBit x = true ∧ ∃ g, g ∈ B ∧ lxlt g f ∧ g &&& f = dif f (Mat.one x) := by
  constructor
  · rintro ⟨h1, z, h2, h3, h4⟩
    refine ⟨h1, _, h4, lxlt_swp h2 h3, Nat.eq_of_testBit_eq fun i => ?_⟩
    rw [Nat.testBit_and, bit_swp, bit_dif, testBit_one]
    by_cases e : z = i
    · subst e; rw [h3]; simp
    · rw [decide_eq_false e]; cases f.testBit i <;> simp
  · rintro ⟨h1, g, h2, h3, h4⟩
    obtain ⟨y, z, h5, h6, h7, h8, h9⟩ := ahead h hf h2 h3
    have e : x = y := by
      have := congrArg (fun s => s.testBit y) h4
      simp only [Nat.testBit_and, bit_dif, testBit_one, h8, h7, Bool.false_and, Bool.true_and] at this
      by_cases e : x = y
      · exact e
      · rw [decide_eq_false e] at this; exact absurd this (by decide)
    subst e
    exact ⟨h1, z, h5, h6, h9⟩

/-- a least one. -/
theorem least_of : ∀ L : List Nat, L ≠ [] → (∀ x, x ∈ L → x < 256) → ∃ m, m ∈ L ∧ ∀ x, x ∈ L → ¬ lxlt x m
  | [], h, _ => absurd rfl h
  | a :: L, _, hlt => by
    by_cases h0 : L = []
    · subst h0
      exact ⟨a, by simp, fun x hx => by rw [List.mem_singleton.1 hx]; exact lxlt_irrefl a⟩
    · obtain ⟨m, hm, hl⟩ := least_of L h0 (fun x hx => hlt x (by simp [hx]))
      by_cases h1 : lxlt a m
      · refine ⟨a, by simp, fun x hx => ?_⟩
        rcases List.mem_cons.1 hx with e | e
        · rw [e]; exact lxlt_irrefl a
        · exact fun h2 => hl x e (lxlt_trans h2 h1)
      · refine ⟨m, by simp [hm], fun x hx => ?_⟩
        rcases List.mem_cons.1 hx with e | e
        · rw [e]; exact h1
        · exact hl x e

/-- those elements of b for which P. -/
def sel (P : Nat → Bool) : Nat := (List.range 8).foldr (fun i m => if P i = true then Mat.one i ||| m else m) 0
theorem bit_sel (P : Nat → Bool) (i : Nat) : (sel P).testBit i = (decide (i < 8) && P i) := by
  have : ∀ l : List Nat, (l.foldr (fun i m => if P i = true then Mat.one i ||| m else m) 0).testBit i = (decide (i ∈ l) && P i) := by
    intro l
    induction l with
    | nil => simp
    | cons a l ih =>
      rw [List.foldr_cons]
      by_cases hp : P a = true
      · rw [if_pos hp, Nat.testBit_or, testBit_one, ih]
        by_cases e : a = i
        · subst e; simp [hp]
        · rw [decide_eq_false e, Bool.false_or]
          congr 1
          simp only [List.mem_cons, decide_eq_decide]
          exact ⟨fun h => .inr h, fun h => by rcases h with h | h; exact absurd h.symm e; exact h⟩
      · rw [if_neg hp, ih]
        by_cases e : a = i
        · subst e
          have : P a = false := by simpa using hp
          rw [this]; simp
        · congr 1
          simp only [List.mem_cons, decide_eq_decide]
          exact ⟨fun h => .inr h, fun h => by rcases h with h | h; exact absurd h.symm e; exact h⟩
  unfold sel
  rw [this]
  simp [List.mem_range]

open Classical in
/-- the restriction of b. -/
noncomputable def rst (B : List Nat) (b : Nat) : Nat := sel fun x => decide (Inn B b x)
theorem bit_rst (h : Exch n B) {b : Nat} (hb : b ∈ B) (x : Nat) : (rst B b).testBit x = true ↔ Inn B b x := by
  classical
  unfold rst
  rw [bit_sel, Bool.and_eq_true, decide_eq_true_eq]
  exact ⟨fun h => of_decide_eq_true h.2, fun h2 => ⟨lt8_of_testBit (h.lt256 hb) h2.1, decide_eq_true h2⟩⟩
theorem rst_sub (h : Exch n B) {b : Nat} (hb : b ∈ B) : Sub (rst B b) b := fun i hi => ((bit_rst h hb i).1 hi).1

/-- s lies between b's restriction and b just where b is the first that holds s. -/
theorem btw_first (h : Exch n B) {b s : Nat} (hb : b ∈ B) : btw (rst B b) s b = true ↔ Sub s b ∧ ∀ g, g ∈ B → Sub s g → ¬ lxlt g b := by
  rw [btw_iff]
  constructor
  · rintro ⟨h1, h2⟩
    refine ⟨h2, fun g hg hs hl => ?_⟩
    obtain ⟨y, z, h3, h4, h5, h6, h7⟩ := ahead h hb hg hl
    have := hs y (h1 y ((bit_rst h hb y).2 ⟨h5, z, h3, h4, h7⟩))
    rw [h6] at this
    exact absurd this (by decide)
  · rintro ⟨h1, h2⟩
    refine ⟨fun x hx => ?_, h1⟩
    obtain ⟨h3, g, h4, h5, h6⟩ := (inn_iff h hb).1 ((bit_rst h hb x).1 hx)
    cases hsx : s.testBit x with
    | true => rfl
    | false =>
      refine absurd h5 (h2 g h4 fun i hi => ?_)
      have := congrArg (fun s => s.testBit i) h6
      simp only [Nat.testBit_and, bit_dif, testBit_one, h1 i hi, Bool.and_true, Bool.true_and] at this
      rw [this, decide_eq_false (fun e => by rw [e, hi] at hsx; exact absurd hsx (by decide))]
      rfl

/-- each independent set lies between one restriction and its basis. -/
theorem one_between (h : Exch n B) {s : Nat} (hs : In B s) : ∃ b, b ∈ B ∧ ∀ b', b' ∈ B → (btw (rst B b') s b' = true ↔ b' = b) := by
  classical
  obtain ⟨a, ha, hsa⟩ := hs
  obtain ⟨m, hm, hl⟩ := least_of (B.filter fun b => decide (Sub s b)) (List.ne_nil_of_mem (a := a) (by simp [ha, hsa])) (fun x hx => h.lt256 (List.mem_filter.1 hx).1)
  rw [List.mem_filter] at hm
  have hm2 := of_decide_eq_true hm.2
  refine ⟨m, hm.1, fun b hb => ?_⟩
  rw [btw_first h hb]
  constructor
  · rintro ⟨h1, h2⟩
    rcases lxlt_total (h.lt256 hb) (h.lt256 hm.1) (hl b (by rw [List.mem_filter]; exact ⟨hb, decide_eq_true h1⟩)) with e | e
    · exact e
    · exact absurd e (h2 m hm.1 hm2)
  · rintro rfl
    exact ⟨hm2, fun g hg hs => hl g (by rw [List.mem_filter]; exact ⟨hg, decide_eq_true hs⟩)⟩
end
end Go.Proofs.Ytkppdmlellmepaa
namespace Go.Proofs.Ytkppdmlellmepaa
open Mat

def isIn (B : List Nat) (s : Nat) : Bool := B.any fun b => b &&& s == s
theorem isIn_iff (B : List Nat) (s : Nat) : isIn B s = true ↔ In B s := by
  unfold isIn In
  rw [List.any_eq_true]
  constructor
  · rintro ⟨b, hb, h⟩; exact ⟨b, hb, (sub_iff s b).2 (by rw [Nat.and_comm]; exact eq_of_beq h)⟩
  · rintro ⟨b, hb, h⟩; exact ⟨b, hb, by rw [Nat.and_comm, (sub_iff s b).1 h]; simp⟩

section
variable {n : Nat} {B : List Nat}

theorem sum_in (h : Exch n B) (hn : B.Nodup) (w : Nat → Int) : Su (List.range (2 ^ n)) (fun s => if isIn B s = true then w (pop s) else 0) = Su B (fun b => Pa w (pop b - pop (rst B b)) (pop (rst B b))) := by
  have e1 : ∀ s, s ∈ List.range (2 ^ n) → (if isIn B s = true then w (pop s) else 0) = Su B (fun b => if btw (rst B b) s b = true then w (pop s) else 0) := fun s _ => by
    by_cases hs : isIn B s = true
    · rw [if_pos hs]
      obtain ⟨b, hb, hu⟩ := one_between h ((isIn_iff B s).1 hs)
      rw [Su_congr (g := fun x => if x = b then w (pop s) else 0) (fun x hx => by
        by_cases e : x = b
        · rw [if_pos e, if_pos ((hu x hx).2 e)]
        · rw [if_neg e, if_neg (fun h2 => e ((hu x hx).1 h2))]), Su_one hn hb]
    · rw [if_neg hs, Su_congr (g := fun _ => 0) (fun b hb => if_neg (fun h2 => hs ((isIn_iff B s).2 ⟨b, hb, ((btw_iff _ _ _).1 h2).2⟩))), Su_zero]
  rw [Su_congr e1, Su_swap]
  refine Su_congr fun b hb => ?_
  have hs := rst_sub h hb
  have := pop_mono hs
  exact between n h.small w _ _ _ hs (h.lt b hb) (by omega)

/-- the rank. -/
theorem pop_rank (h : Exch n B) {d : Nat} (hd : ∀ b, b ∈ B → pop b = d) {k : Nat} (hn : B.Nodup) (hk : k ≤ d) :
    Su (List.range (2 ^ n)) (fun s => if isIn B s = true then wk d k (pop s) else 0) = Su B (fun b => if pop (rst B b) = k then 1 else 0) := by
  rw [sum_in h hn]
  refine Su_congr fun b hb => ?_
  have := pop_mono (rst_sub h hb)
  rw [hd b hb]
  have h8 := pop_le b
  exact Pa_wk d (by rw [← hd b hb]; exact h8) _ (by rw [← hd b hb]; exact this) k hk

/-- what a set of rank r adds to row i of the table, all columns together. -/
theorem row_add (d i r p : Nat) (hp : p ≤ 8) (hr : r ≤ p) (hd : r ≤ d) (hi : i ≤ d) (hd8 : d ≤ 8) :
    (if i ≤ d - r then Su (List.range (p - r + 1)) (fun j => (ch (d - r) i : Int) * (ch (p - r) j : Int) * sg (d - r - i + (p - r) - j)) else 0) = if p = r then wk d (d - i) p else 0 := by
  by_cases h1 : i ≤ d - r
  · rw [if_pos h1]
    have e : ∀ j, j ∈ List.range (p - r + 1) → (ch (d - r) i : Int) * (ch (p - r) j : Int) * sg (d - r - i + (p - r) - j) = ((ch (d - r) i : Int) * sg (d - r - i)) * (sg (p - r - j) * (ch (p - r) j : Int)) := fun j hj => by
      rw [List.mem_range] at hj
      have hs : sg (d - r - i + (p - r) - j) = sg (d - r - i) * sg (p - r - j) := by
        rw [show d - r - i + (p - r) - j = (d - r - i) + (p - r - j) by omega]
        generalize d - r - i = a
        generalize p - r - j = b
        unfold sg
        rcases Nat.mod_two_eq_zero_or_one a with ha | ha <;> rcases Nat.mod_two_eq_zero_or_one b with hb | hb
        · rw [if_neg (by omega), if_neg (by omega), if_neg (by omega)]; rfl
        · rw [if_pos (by omega), if_neg (by omega), if_pos (by omega)]; rfl
        · rw [if_pos (by omega), if_pos (by omega), if_neg (by omega)]; rfl
        · rw [if_neg (by omega), if_pos (by omega), if_pos (by omega)]; rfl
      rw [hs]
      simp only [Int.mul_assoc, Int.mul_left_comm, Int.mul_comm]
    rw [Su_congr e, Su_mul, ch_alt (p - r) (by omega)]
    by_cases h2 : p = r
    · subst h2
      rw [if_pos (by omega), if_pos rfl, wk_row d hd8 i hi p hd, if_pos h1, Int.mul_one, Int.mul_comm]
    · rw [if_neg (by omega), if_neg h2, Int.mul_zero]
  · rw [if_neg h1]
    by_cases h2 : p = r
    · subst h2; rw [if_pos rfl, wk_row d hd8 i hi p hd, if_neg h1]
    · rw [if_neg h2]
end
end Go.Proofs.Ytkppdmlellmepaa
