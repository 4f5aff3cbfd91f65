/-
  Plain: sets in the order of their elements.
-/
import Derived.Test.YtkppdmlellmepaaLb
import Derived.Sort.Statements
import Derived.Shelf.SlSortCmp.Insertion
namespace Go.Proofs.Ytkppdmlellmepaa
open Go.RowKit Go.Proofs.YtkppdmlellmepaaW.PrintWords Go.Proofs.YtkppdmlellmepaaW.PrintLast Go.Proofs.YtkppdmlellmepaaW.PrintMore
open PB Mat

/-- a stands ahead of b: it has the least element that not both have. -/
def lxlt (a b : Nat) : Prop := ∃ i, a.testBit i = true ∧ b.testBit i = false ∧ ∀ j, j < i → a.testBit j = b.testBit j

theorem lxlt_irrefl (a : Nat) : ¬ lxlt a a := fun ⟨i, h1, h2, _⟩ => by rw [h1] at h2; exact absurd h2 (by decide)
theorem lxlt_trans {a b c : Nat} (h : lxlt a b) (k : lxlt b c) : lxlt a c := by
  obtain ⟨i, h1, h2, h3⟩ := h
  obtain ⟨j, k1, k2, k3⟩ := k
  rcases Nat.lt_trichotomy i j with e | e | e
  · exact ⟨i, h1, by rw [← k3 i e]; exact h2, fun t ht => by rw [h3 t ht, k3 t (by omega)]⟩
  · subst e; rw [h2] at k1; exact absurd k1 (by decide)
  · exact ⟨j, by rw [h3 j e]; exact k1, k2, fun t ht => by rw [h3 t (by omega), k3 t ht]⟩

theorem low_min : ∀ s, s < 256 → ∀ j, j < 8 → j < low s → s.testBit j = false := by decide +kernel

theorem xor_ne {a b : Nat} (h : a ≠ b) : a ^^^ b ≠ 0 := fun e => h (Nat.eq_of_testBit_eq fun i => by
  have : (a ^^^ b).testBit i = false := by rw [e, Nat.zero_testBit]
  rw [Nat.testBit_xor] at this
  revert this; cases a.testBit i <;> cases b.testBit i <;> simp)

/-- where two differ first. -/
theorem differ {a b : Nat} (ha : a < 256) (hb : b < 256) (h : a ≠ b) : low (a ^^^ b) < 8 ∧ a.testBit (low (a ^^^ b)) = !b.testBit (low (a ^^^ b)) ∧ ∀ j, j < low (a ^^^ b) → a.testBit j = b.testBit j := by
  have hx : a ^^^ b < 256 := Nat.xor_lt_two_pow (n := 8) ha hb
  obtain ⟨g1, g2, _, _⟩ := low_spec _ hx (xor_ne h)
  refine ⟨g1, ?_, fun j hj => ?_⟩
  · rw [Nat.testBit_xor] at g2
    revert g2; cases a.testBit (low (a ^^^ b)) <;> cases b.testBit (low (a ^^^ b)) <;> simp
  · have := low_min _ hx j (by omega) hj
    rw [Nat.testBit_xor] at this
    revert this; cases a.testBit j <;> cases b.testBit j <;> simp

theorem lxlt_iff {a b : Nat} (ha : a < 256) (hb : b < 256) (h : a ≠ b) : lxlt a b ↔ a.testBit (low (a ^^^ b)) = true := by
  obtain ⟨_, g2, g3⟩ := differ ha hb h
  constructor
  · rintro ⟨i, h1, h2, h3⟩
    rcases Nat.lt_trichotomy i (low (a ^^^ b)) with e | e | e
    · rw [g3 i e, h2] at h1; exact absurd h1 (by decide)
    · rw [← e]; exact h1
    · have := h3 _ e; rw [this] at g2
      revert g2; cases b.testBit (low (a ^^^ b)) <;> simp
  · intro h1
    exact ⟨_, h1, by rw [h1] at g2; revert g2; cases b.testBit (low (a ^^^ b)) <;> simp, g3⟩

theorem lxlt_total {a b : Nat} (ha : a < 256) (hb : b < 256) (h : ¬ lxlt a b) : a = b ∨ lxlt b a := by
  by_cases e : a = b
  · exact .inl e
  · refine .inr ((lxlt_iff hb ha (fun e2 => e e2.symm)).2 ?_)
    obtain ⟨_, g2, _⟩ := differ ha hb e
    have h1 : ¬ a.testBit (low (a ^^^ b)) = true := fun h2 => h ((lxlt_iff ha hb e).2 h2)
    rw [Nat.xor_comm]
    revert g2 h1; cases a.testBit (low (a ^^^ b)) <;> cases b.testBit (low (a ^^^ b)) <;> simp

/-- what the closure answers. -/
def cfN (a b : Nat) : Int := if a = b then 0 else if a.testBit (low (a ^^^ b)) = true then -1 else 1
def cfF (a b : Fin 256) : Int := cfN a.val b.val

theorem cfF_neg (a b : Fin 256) : ltOf cfF a b = true ↔ lxlt a.val b.val := by
  unfold ltOf cfF cfN
  rw [decide_eq_true_eq]
  by_cases e : a.val = b.val
  · rw [if_pos e, e]; exact ⟨fun h => absurd h (by decide), fun h => absurd h (lxlt_irrefl _)⟩
  · rw [if_neg e, lxlt_iff a.isLt b.isLt e]
    by_cases h : a.val.testBit (low (a.val ^^^ b.val)) = true
    · rw [if_pos h]; exact ⟨fun _ => h, fun _ => by decide⟩
    · rw [if_neg h]; exact ⟨fun h2 => absurd h2 (by decide), fun h2 => absurd h2 h⟩

theorem cfF_not (a b : Fin 256) : ltOf cfF a b = false ↔ ¬ lxlt a.val b.val := by
  rw [← cfF_neg, Bool.not_eq_true]

theorem swo_cfF : Go.Sort.SWO (ltOf cfF) where
  irrefl := fun x => (cfF_not x x).2 (lxlt_irrefl _)
  trans := fun x y z h k => (cfF_neg x z).2 (lxlt_trans ((cfF_neg x y).1 h) ((cfF_neg y z).1 k))
  ntrans := fun x y z h k => (cfF_not x z).2 fun hz => by
    rcases lxlt_total x.isLt y.isLt ((cfF_not x y).1 h) with e | e
    · rw [e] at hz; exact (cfF_not y z).1 k hz
    · exact (cfF_not y z).1 k (lxlt_trans e hz)

theorem tot_cfF (x y : Fin 256) (h : ltOf cfF x y = false) (k : ltOf cfF y x = false) : x = y := by
  rcases lxlt_total x.isLt y.isLt ((cfF_not x y).1 h) with e | e
  · exact Fin.ext e
  · exact absurd e ((cfF_not y x).1 k)

theorem xor_nat (a b : Nat) (ha : a < 65536) (hb : b < 65536) : Go.bits .xor .i64 (a : Int) (b : Int) = ((a ^^^ b : Nat) : Int) := by
  have ha' : a % 2 ^ IntKind.i64.bits = a := Nat.mod_eq_of_lt (Nat.lt_of_lt_of_le ha (by decide))
  have hb' : b % 2 ^ IntKind.i64.bits = b := Nat.mod_eq_of_lt (Nat.lt_of_lt_of_le hb (by decide))
  simp only [Go.bits, BitVec.ofInt_natCast, BitVec.toNat_xor, BitVec.toNat_ofNat, ha', hb']
  have := Nat.xor_lt_two_pow (n := 16) ha hb
  rw [IntKind.wrap_i64]; omega

theorem and_one {a i : Nat} : a &&& Mat.one i ≠ 0 ↔ a.testBit i = true := by
  constructor
  · intro h
    cases hb : a.testBit i with
    | true => rfl
    | false =>
      refine absurd (Nat.eq_of_testBit_eq fun j => ?_) h
      rw [Nat.testBit_and, testBit_one, Nat.zero_testBit]
      by_cases e : i = j
      · subst e; simp [hb]
      · simp [e]
  · intro h e
    have : (a &&& Mat.one i).testBit i = true := by rw [Nat.testBit_and, testBit_one, h]; simp
    rw [e, Nat.zero_testBit] at this; exact absurd this (by decide)
end Go.Proofs.Ytkppdmlellmepaa
