/-
  Plain: Check of anything: it ends; what passes is a matroid's bases, rising.
-/
import Derived.Test.YtkppdmlellmepaaLb
namespace Go.Proofs.Ytkppdmlellmepaa
open Go.RowKit Go.Proofs.YtkppdmlellmepaaW.PrintWords Go.Proofs.YtkppdmlellmepaaW.PrintLast Go.Proofs.YtkppdmlellmepaaW.PrintMore
open PB Mat

/-- the first i of l rise, below 2^n. -/
def Upto (n : Nat) (l : List Int) (i : Nat) : Prop := ∀ j, j < i → (j : Int) ≤ rd l (j : Int) ∧ rd l (j : Int) < ((2 ^ n : Nat) : Int) ∧ (0 < j → rd l ((j - 1 : Nat) : Int) < rd l (j : Int))

theorem family_l0_any (n : Nat) (hn : n ≤ 8) (l : List Int) (d : Nat) : ∀ k i, i + d = 257 → i ≤ l.length → Upto n l i → d < k → ∃ e, sets_Family.l0 k (n : Int) l l (l.length : Int) (i : Int) = some e ∧ (e = 0 → Upto n l l.length) := by
  induction d with
  | zero =>
    intro k i hi hil hU hk
    have h1 := hU 256 (by omega)
    have := two_pow_le_256 hn
    omega
  | succ d ih =>
    intro k i hi hil hU hk
    obtain ⟨k, rfl⟩ : ∃ m, k = m + 1 := ⟨k - 1, by omega⟩
    simp only [sets_Family.l0]
    by_cases h0 : i = l.length
    · rw [if_neg (by omega)]
      exact ⟨0, rfl, fun _ => by rw [← h0]; exact hU⟩
    · have hw : wrap64 ((i : Int) + 1) = ((i + 1 : Nat) : Int) := wrap_succ i (by omega)
      have hw1 : 0 < i → wrap64 ((i : Int) - 1) = ((i - 1 : Nat) : Int) := fun h => by rw [wrap_is _ (by omega) (by omega)]; omega
      rw [if_pos (by omega), if_pos (by omega), if_pos (by omega)]
      by_cases c1 : rd l (i : Int) < 0
      · rw [if_pos c1]; exact ⟨1, rfl, fun h => absurd h (by decide)⟩
      · rw [if_neg c1, if_pos (by omega), one_shl n hn]
        by_cases c2 : rd l (i : Int) ≥ ((2 ^ n : Nat) : Int)
        · rw [if_pos c2]; exact ⟨1, rfl, fun h => absurd h (by decide)⟩
        · rw [if_neg c2]
          by_cases c3 : (i : Int) > 0
          · rw [if_pos c3, hw1 (by omega), if_pos (by omega), if_pos (by omega)]
            by_cases c4 : rd l (i : Int) ≤ rd l ((i - 1 : Nat) : Int)
            · rw [if_pos c4]; exact ⟨1, rfl, fun h => absurd h (by decide)⟩
            · rw [if_neg c4, hw]
              refine ih k (i + 1) (by omega) (by omega) (fun j hj => ?_) (by omega)
              by_cases e : j = i
              · subst e
                have := (hU (j - 1) (by omega)).1
                exact ⟨by omega, by omega, fun _ => by omega⟩
              · exact hU j (by omega)
          · rw [if_neg c3, hw]
            refine ih k (i + 1) (by omega) (by omega) (fun j hj => ?_) (by omega)
            obtain rfl : i = 0 := by omega
            obtain rfl : j = 0 := by omega
            exact ⟨by omega, by omega, fun h => by omega⟩

theorem upto_toI {n : Nat} (hn : n ≤ 8) {l : List Int} (h : Upto n l l.length) : ∃ B : List Nat, l = toI B ∧ Rise B ∧ (∀ b, b ∈ B → b < 2 ^ n) ∧ B.length ≤ 256 := by
  have hg : ∀ j (hj : j < l.length), rd l (j : Int) = l[j] := fun j hj => by simp [rd, List.getD_eq_getElem?_getD, hj]
  refine ⟨l.map Int.toNat, ?_, ?_, ?_, ?_⟩
  · refine List.ext_getElem (by simp [toI]) fun j h1 h2 => ?_
    have := (h j h1).1
    rw [hg j h1] at this
    simp only [toI, List.map_map, List.getElem_map, Function.comp]
    omega
  · have step : ∀ d i, i + d < l.length → ∀ h1 : i < l.length, ∀ h2 : i + d < l.length, 0 < d → l[i] < l[i + d] := by
      intro d
      induction d with
      | zero => intro i _ _ _ h; omega
      | succ d ih =>
        intro i hi h1 h2 _
        have h3 := (h (i + d + 1) (by omega)).2.2 (by omega)
        rw [show i + d + 1 - 1 = i + d by omega, hg (i + d + 1) (by omega), hg (i + d) (by omega)] at h3
        by_cases e : d = 0
        · subst e; exact h3
        · exact Int.lt_trans (ih i (by omega) h1 (by omega) (by omega)) h3
    unfold Rise
    rw [List.pairwise_iff_getElem]
    intro i j hi hj hij
    simp only [List.length_map] at hi hj
    have h1 := step (j - i) i (by omega) hi (by omega) (by omega)
    have h2 := (h i hi).1
    have h3 : l[i + (j - i)] = l[j] := by congr 1; omega
    rw [h3] at h1
    rw [hg i hi] at h2
    simp only [List.getElem_map]
    omega
  · intro b hb
    obtain ⟨x, hx, rfl⟩ := List.mem_map.1 hb
    obtain ⟨j, hj, rfl⟩ := List.mem_iff_getElem.1 hx
    have h1 := h j hj
    rw [hg j hj] at h1
    omega
  · rw [List.length_map]
    by_cases h0 : l.length = 0
    · omega
    · have h1 := h (l.length - 1) (by omega)
      have := two_pow_le_256 hn
      omega

theorem family_any (a0 : Int) (l : List Int) (k : Nat) (hk : 300 ≤ k) : ∃ e, sets_Family.f k a0 l = some e ∧ (e = 0 → ∃ (n : Nat) (B : List Nat), a0 = (n : Int) ∧ n ≤ 8 ∧ l = toI B ∧ Rise B ∧ (∀ b, b ∈ B → b < 2 ^ n) ∧ B.length ≤ 256) := by
  obtain ⟨k, rfl⟩ : ∃ m, k = m + 1 := ⟨k - 1, by omega⟩
  unfold sets_Family.f
  by_cases c1 : a0 < 0
  · rw [if_pos c1]; simp only [sets_Family.j0]
    rw [if_pos trivial]
    exact ⟨1, rfl, fun h => absurd h (by decide)⟩
  · rw [if_neg c1]
    by_cases c2 : a0 > 8
    · rw [decide_eq_true c2]; simp only [sets_Family.j0]
      rw [if_pos trivial]
      exact ⟨1, rfl, fun h => absurd h (by decide)⟩
    · rw [decide_eq_false c2]; simp only [sets_Family.j0]
      rw [if_neg (by decide)]
      obtain ⟨n, rfl⟩ := Int.eq_ofNat_of_zero_le (show 0 ≤ a0 by omega)
      obtain ⟨e, h1, h2⟩ := family_l0_any n (by omega) l 257 k 0 (by omega) (by omega) (fun j hj => by omega) (by omega)
      refine ⟨e, h1, fun he => ?_⟩
      obtain ⟨B, h3, h4, h5, h6⟩ := upto_toI (show n ≤ 8 by omega) (h2 he)
      exact ⟨n, B, rfl, by omega, h3, h4, h5, h6⟩

theorem check_any (a0 : Int) (l : List Int) (k : Nat) (hk : 70000 ≤ k) : ∃ e, axioms_Check.f k a0 l = some e ∧ (e = 0 → ∃ (n : Nat) (B : List Nat), a0 = (n : Int) ∧ l = toI B ∧ Exch n B ∧ Rise B ∧ B.length ≤ 256) := by
  obtain ⟨e, h1, h2⟩ := family_any a0 l k (by omega)
  by_cases he : e = 0
  · obtain ⟨n, B, rfl, hn, rfl, h3, h4, h5⟩ := h2 he
    have hq : B.length * (B.length + 2) ≤ 256 * 258 := Nat.mul_le_mul h5 (by omega)
    obtain ⟨e', h6, h7⟩ := check_ok n hn B h3 h4 h5 k (by omega)
    exact ⟨e', h6, fun h => ⟨n, B, rfl, rfl, h7.1 h, h3, h5⟩⟩
  · obtain ⟨k, rfl⟩ : ∃ m, k = m + 1 := ⟨k - 1, by omega⟩
    unfold axioms_Check.f
    rw [h1]
    simp only [Option.bind_some]
    rw [if_neg he]
    simp only [axioms_Check.j0]
    rw [if_pos trivial]
    exact ⟨1, rfl, fun h => absurd h (by decide)⟩
end Go.Proofs.Ytkppdmlellmepaa
