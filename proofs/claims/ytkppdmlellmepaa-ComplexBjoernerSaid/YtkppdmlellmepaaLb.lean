/-
  Plain: what Go's operations on whole numbers say of sets of elements below 8: and, or, without, one element, how many.
  Plain: what the printed functions of packages sets and axioms answer: Family, BinarySearch, exchange, Check, ranks, at a rising list of sets.
  Plain: what Check, ranks, ones answer at a rising list of sets.
-/
import Derived.Test.YtkppdmlellmepaaMatD
import Derived.Test.YtkppdmlellmepaaPBx3
import Derived.Test.YtkppdmlellmepaaPBx4
namespace Go.Proofs.Ytkppdmlellmepaa
open Go.RowKit Go.Proofs.YtkppdmlellmepaaW.PrintWords Go.Proofs.YtkppdmlellmepaaW.PrintLast Go.Proofs.YtkppdmlellmepaaW.PrintMore
open PB Mat

theorem wrap_is (n : Int) (h0 : -1000000000 ≤ n) (h1 : n ≤ 1000000000) : wrap64 n = n := by unfold wrap64; omega

theorem and_nat (a b : Nat) (ha : a < 65536) (hb : b < 65536) : Go.bits .and .i64 (a : Int) (b : Int) = ((a &&& b : Nat) : Int) :=
  (bits_nat .i64 16 (by decide) (fun n h0 h1 => by rw [IntKind.wrap_i64]; omega) a b ha hb).1
theorem or_nat (a b : Nat) (ha : a < 65536) (hb : b < 65536) : Go.bits .or .i64 (a : Int) (b : Int) = ((a ||| b : Nat) : Int) :=
  (bits_nat .i64 16 (by decide) (fun n h0 h1 => by rw [IntKind.wrap_i64]; omega) a b ha hb).2

theorem dif_lt {a b n : Nat} (ha : a < 2 ^ n) : dif a b < 2 ^ n := lt_of_sub (fun i hi => by simp at hi; exact hi.1) ha

theorem andNot_nat (a b : Nat) (ha : a < 65536) (hb : b < 65536) : Go.bits .andNot .i64 (a : Int) (b : Int) = ((dif a b : Nat) : Int) := by
  have ha' : a % 2 ^ IntKind.i64.bits = a := Nat.mod_eq_of_lt (Nat.lt_of_lt_of_le ha (by decide))
  have hb' : b % 2 ^ IntKind.i64.bits = b := Nat.mod_eq_of_lt (Nat.lt_of_lt_of_le hb (by decide))
  have key : (BitVec.ofNat IntKind.i64.bits a &&& ~~~BitVec.ofNat IntKind.i64.bits b).toNat = dif a b := by
    refine Nat.eq_of_testBit_eq fun i => ?_
    rw [BitVec.testBit_toNat, BitVec.getLsbD_and, BitVec.getLsbD_not, testBit_dif, ← BitVec.testBit_toNat, ← BitVec.testBit_toNat, BitVec.toNat_ofNat, BitVec.toNat_ofNat, ha', hb']
    by_cases hi : i < IntKind.i64.bits
    · simp [hi]
    · have : a.testBit i = false := Nat.testBit_lt_two_pow (Nat.lt_of_lt_of_le ha (Nat.pow_le_pow_right (by decide) (Nat.le_trans (by decide : 16 ≤ IntKind.i64.bits) (Nat.not_lt.1 hi)) : 2 ^ 16 ≤ 2 ^ i))
      simp [this]
  simp only [Go.bits, BitVec.ofInt_natCast, key]
  have := dif_lt (b := b) (show a < 2 ^ 16 from ha)
  rw [IntKind.wrap_i64]; omega

theorem bit_nat (s i : Nat) (hs : s < 65536) (hi : i < 64) : Go.bits .and .i64 (shr .i64 (s : Int) (i : Int)) 1 = if s.testBit i = true then 1 else 0 := by
  have h1 : shr .i64 (s : Int) (i : Int) = ((s / 2 ^ i : Nat) : Int) := by
    unfold shr
    have : min ((i : Int).toNat) IntKind.i64.bits = i := by rw [Int.toNat_natCast]; exact Nat.min_eq_left (by have : IntKind.i64.bits = 64 := rfl; omega)
    rw [this]; push_cast; rfl
  have h2 : s / 2 ^ i < 65536 := Nat.lt_of_le_of_lt (Nat.div_le_self _ _) hs
  rw [h1, show (1 : Int) = ((1 : Nat) : Int) from rfl, and_nat _ 1 h2 (by decide), Nat.and_one_is_mod, Nat.testBit_eq_decide_div_mod_eq]
  rcases Nat.mod_two_eq_zero_or_one (s / 2 ^ i) with h | h <;> simp [h]

theorem wrap_big (n : Int) (h0 : 0 ≤ n) (h1 : n ≤ 65536 * 65536) : wrap64 n = n := by unfold wrap64; omega
theorem shl_nat (a n : Nat) (ha : a < 65536) (hn : n ≤ 16) : shl .i64 (a : Int) (n : Int) = ((a * 2 ^ n : Nat) : Int) := by
  unfold shl
  have : min ((n : Int).toNat) IntKind.i64.bits = n := by rw [Int.toNat_natCast]; exact Nat.min_eq_left (by have : IntKind.i64.bits = 64 := rfl; omega)
  rw [this]
  have h1 : 2 ^ n ≤ 2 ^ 16 := Nat.pow_le_pow_right (by decide) hn
  have h2 : a * 2 ^ n ≤ 65536 * 65536 := Nat.mul_le_mul (Nat.le_of_lt ha) h1
  have h3 : (a : Int) * 2 ^ n = ((a * 2 ^ n : Nat) : Int) := by push_cast; rfl
  rw [h3, i64_w]
  exact wrap_big _ (by omega) (by omega)

theorem size_nat : ∀ s : Nat, s < 256 → axioms_size.f (s : Int) = some (pop s : Int) := by decide +kernel
theorem csize_nat : ∀ s : Nat, s < 256 → complex_size.f (s : Int) = some (pop s : Int) := by decide +kernel

/-- the least element. -/
def low (s : Nat) : Nat := ((List.range 8).find? fun i => s.testBit i).getD 8

theorem low_spec : ∀ s, s < 256 → s ≠ 0 → low s < 8 ∧ s.testBit (low s) = true ∧ Go.bits .and .i64 (s : Int) (wrap64 (-(s : Int))) = ((one (low s) : Nat) : Int) ∧ Go.bits .and .i64 (s : Int) (wrap64 ((s : Int) - 1)) = ((dif s (one (low s)) : Nat) : Int) := by
  decide +kernel
end Go.Proofs.Ytkppdmlellmepaa
namespace Go.Proofs.Ytkppdmlellmepaa
open Go.RowKit Go.Proofs.YtkppdmlellmepaaW.PrintWords Go.Proofs.YtkppdmlellmepaaW.PrintLast Go.Proofs.YtkppdmlellmepaaW.PrintMore
open PB Mat

def toI (l : List Nat) : List Int := l.map fun x : Nat => (x : Int)
@[simp] theorem toI_length (l : List Nat) : (toI l).length = l.length := by simp [toI]
theorem rd_toI (l : List Nat) (i : Nat) : rd (toI l) (i : Int) = ((l.getD i 0 : Nat) : Int) := by
  unfold rd toI
  rw [Int.toNat_natCast, List.getD_eq_getElem?_getD, List.getElem?_map, List.getD_eq_getElem?_getD]
  cases l[i]? <;> rfl

theorem getD_mem {l : List Nat} {i : Nat} (h : i < l.length) : l.getD i 0 ∈ l := by
  rw [List.getD_eq_getElem?_getD, List.getElem?_eq_getElem h]; exact List.getElem_mem h
theorem mem_getD {l : List Nat} {x : Nat} (h : x ∈ l) : ∃ i, i < l.length ∧ l.getD i 0 = x := by
  obtain ⟨i, hi, e⟩ := List.mem_iff_getElem.1 h
  exact ⟨i, hi, by rw [List.getD_eq_getElem?_getD, List.getElem?_eq_getElem hi]; exact e⟩

/-- rising. -/
def Rise (l : List Nat) : Prop := l.Pairwise (· < ·)
theorem Rise.lt {l : List Nat} (h : Rise l) {i j : Nat} (hij : i < j) (hj : j < l.length) : l.getD i 0 < l.getD j 0 := by
  have := List.pairwise_iff_getElem.1 h i j (by omega) hj hij
  rw [List.getD_eq_getElem?_getD, List.getElem?_eq_getElem (by omega), List.getD_eq_getElem?_getD, List.getElem?_eq_getElem hj]; exact this

theorem two_pow_le_256 {n : Nat} (h : n ≤ 8) : 2 ^ n ≤ 256 := Nat.pow_le_pow_right (by decide) h
theorem one_shl (n : Nat) (h : n ≤ 8) : shl .i64 1 (n : Int) = ((2 ^ n : Nat) : Int) := by
  rw [show (1 : Int) = ((1 : Nat) : Int) from rfl, shl_nat 1 n (by decide) (by omega), Nat.one_mul]

theorem family_l0 (n : Nat) (hn : n ≤ 8) (B : List Nat) (hB : Rise B) (hlt : ∀ b, b ∈ B → b < 2 ^ n) (hl : B.length < 100000) (d : Nat) : ∀ k i, i + d = B.length → d < k → sets_Family.l0 k (n : Int) (toI B) (toI B) (B.length : Int) (i : Int) = some 0 := by
  induction d with
  | zero =>
    intro k i hi hk
    obtain ⟨k, rfl⟩ : ∃ m, k = m + 1 := ⟨k - 1, by omega⟩
    simp only [sets_Family.l0]; rw [if_neg (by omega)]
  | succ d ih =>
    intro k i hi hk
    obtain ⟨k, rfl⟩ : ∃ m, k = m + 1 := ⟨k - 1, by omega⟩
    have hs := hlt _ (getD_mem (show i < B.length by omega))
    have hw : wrap64 ((i : Int) + 1) = ((i + 1 : Nat) : Int) := by rw [wrap_is _ (by omega) (by omega)]; omega
    have hnext := ih k (i + 1) (by omega) (by omega)
    simp only [sets_Family.l0]
    rw [if_pos (by omega), if_pos (by omega), toI_length, if_pos (by omega), rd_toI, if_neg (by omega), if_pos (by omega), one_shl n hn, if_neg (by omega), hw, hnext]
    by_cases h0 : i = 0
    · subst h0; rw [if_neg (by decide)]
    · have hw1 : wrap64 ((i : Int) - 1) = ((i - 1 : Nat) : Int) := by rw [wrap_is _ (by omega) (by omega)]; omega
      have := hB.lt (show i - 1 < i by omega) (by omega)
      rw [if_pos (by omega), hw1, if_pos (by omega), if_pos (by omega), rd_toI, if_neg (by omega)]

theorem family_ok (n : Nat) (hn : n ≤ 8) (B : List Nat) (hB : Rise B) (hlt : ∀ b, b ∈ B → b < 2 ^ n) (hl : B.length < 100000) (k : Nat) (hk : B.length + 2 ≤ k) : sets_Family.f k (n : Int) (toI B) = some 0 := by
  obtain ⟨k, rfl⟩ : ∃ m, k = m + 1 := ⟨k - 1, by omega⟩
  unfold sets_Family.f
  have : (decide ((n : Int) > 8)) = false := decide_eq_false (by omega)
  rw [if_neg (by omega), this]
  simp only [sets_Family.j0]
  rw [if_neg (by decide), toI_length]
  exact family_l0 n hn B hB hlt hl B.length k 0 (by omega) (by omega)

theorem less_is (a b : Int) : cmp_Less_int.f a b = some (decide (a < b)) := by
  unfold cmp_Less_int.f cmp_isNaN_int.f
  simp

theorem wrap_succ (i : Nat) (h : i ≤ 1000000) : wrap64 ((i : Int) + 1) = ((i + 1 : Nat) : Int) := by rw [wrap_is _ (by omega) (by omega)]; omega
theorem mid_is (lo hi : Nat) (h : lo + hi ≤ 1000000) : wrap64 ((IntKind.u64.wrap (wrap64 ((lo : Int) + (hi : Int)))) / 2) = (((lo + hi) / 2 : Nat) : Int) := by
  rw [wrap_is ((lo : Int) + (hi : Int)) (by omega) (by omega)]
  have : IntKind.u64.wrap ((lo : Int) + (hi : Int)) = (lo : Int) + (hi : Int) := by
    simp [IntKind.wrap, IntKind.bits, IntKind.signed]; omega
  rw [this, wrap_is _ (by omega) (by omega)]; omega

theorem search_l0 (B : List Nat) (hB : Rise B) (hl : B.length < 100000) (x : Nat) (d : Nat) : ∀ k lo hi, lo ≤ hi → hi ≤ B.length → hi - lo ≤ d → d < k → (∀ i, i < lo → B.getD i 0 < x) → (∀ i, hi ≤ i → i < B.length → x ≤ B.getD i 0) →
    ∃ p, slices_BinarySearch_int_int.l0 k (toI B) (x : Int) (B.length : Int) (lo : Int) (hi : Int) = some (p, decide (x ∈ B)) := by
  induction d with
  | zero =>
    intro k lo hi h1 h2 hd hk ha hb
    obtain ⟨k, rfl⟩ : ∃ m, k = m + 1 := ⟨k - 1, by omega⟩
    simp only [slices_BinarySearch_int_int.l0]
    rw [if_neg (by omega)]
    by_cases hlo : lo < B.length
    · rw [if_pos (by omega), if_pos (by omega), toI_length, if_pos (by omega), rd_toI]
      by_cases he : B.getD lo 0 = x
      · rw [if_pos (by omega)]
        exact ⟨_, by rw [decide_eq_true (he ▸ getD_mem hlo)]⟩
      · rw [if_neg (by omega)]
        refine ⟨lo, ?_⟩
        have hx : x ∉ B := fun hx => by
          obtain ⟨i, hi, e⟩ := mem_getD hx
          rcases Nat.lt_trichotomy i lo with h | h | h
          · have := ha i h; omega
          · subst h; exact he e
          · have h3 := hB.lt h hi
            have h4 := hb lo (by omega) hlo
            omega
        simp [slices_isNaN_int.f, hx]
    · rw [if_neg (by omega)]
      have hx : x ∉ B := fun hx => by
        obtain ⟨i, hi, e⟩ := mem_getD hx
        have := ha i (by omega); omega
      exact ⟨_, by rw [decide_eq_false hx]⟩
  | succ d ih =>
    intro k lo hi h1 h2 hd hk ha hb
    obtain ⟨k, rfl⟩ : ∃ m, k = m + 1 := ⟨k - 1, by omega⟩
    by_cases hlt : lo < hi
    · have hmid : lo + hi ≤ 1000000 := by omega
      simp only [slices_BinarySearch_int_int.l0]
      rw [if_pos (by omega), mid_is lo hi hmid, if_pos (by omega), toI_length, if_pos (by omega), rd_toI, less_is]
      simp only [Option.bind_some]
      by_cases hc : B.getD ((lo + hi) / 2) 0 < x
      · rw [if_pos (by rw [decide_eq_true_eq]; omega)]
        rw [wrap_succ _ (by omega)]
        refine ih k _ hi (by omega) h2 (by omega) (by omega) (fun i hi' => ?_) hb
        by_cases e : i = (lo + hi) / 2
        · subst e; exact hc
        · exact Nat.lt_trans (hB.lt (show i < (lo + hi) / 2 by omega) (by omega)) hc
      · rw [if_neg (by rw [decide_eq_true_eq]; omega)]
        refine ih k lo _ (by omega) (by omega) (by omega) (by omega) ha (fun i hi' hil => ?_)
        by_cases e : i = (lo + hi) / 2
        · subst e; omega
        · have := hB.lt (show (lo + hi) / 2 < i by omega) hil; omega
    · exact ih (k + 1) lo hi h1 h2 (by omega) (by omega) ha hb

theorem search_ok (B : List Nat) (hB : Rise B) (hl : B.length < 100000) (x : Nat) (k : Nat) (hk : B.length < k) : ∃ p, slices_BinarySearch_int_int.f k (toI B) (x : Int) = some (p, decide (x ∈ B)) := by
  unfold slices_BinarySearch_int_int.f
  rw [toI_length]
  exact search_l0 B hB hl x B.length k 0 B.length (by omega) (by omega) (by omega) hk (fun i h => absurd h (by omega)) (fun i h1 h2 => absurd h2 (by omega))

theorem dif_one_lt (s : Nat) (i : Nat) (hi : i < 8) (h : s.testBit i = true) : pop (dif s (one i)) + 1 = pop s := pop_take hi h
theorem lt256_of {n b : Nat} (hn : n ≤ 8) (h : b < 2 ^ n) : b < 256 := Nat.lt_of_lt_of_le h (two_pow_le_256 hn)
theorem ne_zero_of_bit {s i : Nat} (h : s.testBit i = true) : s ≠ 0 := fun e => by rw [e, Nat.zero_testBit] at h; exact absurd h (by decide)
theorem one_lt {i : Nat} (h : i < 8) : one i < 256 := by revert h; revert i; decide

open Classical in
/-- within a of exchange: the inner search. -/
theorem exchange_l1 (n : Int) (B : List Nat) (hB : Rise B) (hl : B.length ≤ 256) (a b out x : Nat) (ha : a < 256) (hx : x < 8) (d : Nat) : ∀ k inn ok, inn < 256 → pop inn ≤ d → d + 300 < k →
    ∃ k', k' + d + 1 ≥ k ∧ k' < k ∧ axioms_exchange.l1 k (a : Int) (b : Int) (out : Int) ((one x : Nat) : Int) ok (inn : Int) n (toI B) =
      if (ok || decide (∃ y, inn.testBit y = true ∧ (dif a (one x) ||| one y) ∈ B)) = true then axioms_exchange.l0 k' (a : Int) (b : Int) (Go.bits .and .i64 (out : Int) (wrap64 ((out : Int) - 1))) n (toI B) else some false := by
  induction d with
  | zero =>
    intro k inn ok hin hp hk
    have h0 := zero_of_pop hin (by omega)
    subst h0
    obtain ⟨k, rfl⟩ : ∃ m, k = m + 1 := ⟨k - 1, by omega⟩
    refine ⟨k, by omega, by omega, ?_⟩
    simp only [axioms_exchange.l1]
    rw [if_pos (show ((0 : Nat) : Int) = 0 from rfl)]
    simp
  | succ d ih =>
    intro k inn ok hin hp hk
    obtain ⟨k, rfl⟩ : ∃ m, k = m + 1 := ⟨k - 1, by omega⟩
    by_cases hz : inn = 0
    · subst hz
      refine ⟨k, by omega, by omega, ?_⟩
      simp only [axioms_exchange.l1]
      rw [if_pos (show ((0 : Nat) : Int) = 0 from rfl)]
      simp
    · cases hok : ok with
      | true =>
        refine ⟨k, by omega, by omega, ?_⟩
        simp only [axioms_exchange.l1]
        rw [if_neg (by omega)]; simp
      | false =>
        obtain ⟨g1, g2, g3, g4⟩ := low_spec inn hin hz
        have hpl := pop_take g1 g2
        have hd1 : dif a (one x) < 256 := dif_lt (n := 8) ha
        obtain ⟨p, hs⟩ := search_ok B hB (by omega) (dif a (one x) ||| one (low inn)) k (by omega)
        have hdn : dif inn (one (low inn)) < 256 := dif_lt (n := 8) hin
        obtain ⟨k', h1, h2, h3⟩ := ih k (dif inn (one (low inn))) (decide ((dif a (one x) ||| one (low inn)) ∈ B)) hdn (by omega) (by omega)
        refine ⟨k', by omega, by omega, ?_⟩
        simp only [axioms_exchange.l1]
        have hox := one_lt hx
        have hol := one_lt g1
        rw [if_neg (by omega), if_neg (by decide), g3, g4, andNot_nat _ _ (by omega) (by omega), or_nat _ _ (by omega) (by omega), hs]
        simp only [Option.bind_some]
        rw [h3]
        have : (decide ((dif a (one x) ||| one (low inn)) ∈ B) || decide (∃ y, (dif inn (one (low inn))).testBit y = true ∧ (dif a (one x) ||| one y) ∈ B)) = (false || decide (∃ y, inn.testBit y = true ∧ (dif a (one x) ||| one y) ∈ B)) := by
          rw [Bool.false_or, Bool.eq_iff_iff, Bool.or_eq_true, decide_eq_true_eq, decide_eq_true_eq, decide_eq_true_eq]
          constructor
          · rintro (h | ⟨y, h5, h6⟩)
            · exact ⟨_, g2, h⟩
            · rw [testBit_dif, Bool.and_eq_true] at h5; exact ⟨y, h5.1, h6⟩
          · rintro ⟨y, h5, h6⟩
            by_cases e : low inn = y
            · rw [← e] at h6; exact .inl h6
            · refine .inr ⟨y, ?_, h6⟩
              rw [testBit_dif, testBit_one, h5]; simp [e]
        rw [this]

open Classical in
theorem exchange_l0 (n : Int) (B : List Nat) (hB : Rise B) (hl : B.length ≤ 256) (a b : Nat) (ha : a < 256) (hb : b < 256) (d : Nat) : ∀ k out, out < 256 → pop out ≤ d → 10 * d + 400 < k →
    axioms_exchange.l0 k (a : Int) (b : Int) (out : Int) n (toI B) = some (decide (∀ x, out.testBit x = true → ∃ y, (dif b a).testBit y = true ∧ (dif a (one x) ||| one y) ∈ B)) := by
  induction d with
  | zero =>
    intro k out hout hp hk
    have h0 := zero_of_pop hout (by omega)
    subst h0
    obtain ⟨k, rfl⟩ : ∃ m, k = m + 1 := ⟨k - 1, by omega⟩
    simp only [axioms_exchange.l0]
    rw [if_pos (show ((0 : Nat) : Int) = 0 from rfl)]; simp
  | succ d ih =>
    intro k out hout hp hk
    obtain ⟨k, rfl⟩ : ∃ m, k = m + 1 := ⟨k - 1, by omega⟩
    by_cases hz : out = 0
    · subst hz
      simp only [axioms_exchange.l0]
      rw [if_pos (show ((0 : Nat) : Int) = 0 from rfl)]; simp
    · obtain ⟨g1, g2, g3, g4⟩ := low_spec out hout hz
      have hpl := pop_take g1 g2
      have hdn : dif out (one (low out)) < 256 := dif_lt (n := 8) hout
      have hin : dif b a < 256 := dif_lt (n := 8) hb
      obtain ⟨k', h1, h2, h3⟩ := exchange_l1 n B hB hl a b out (low out) ha g1 8 k (dif b a) false hin (pop_le _) (by omega)
      simp only [axioms_exchange.l0]
      rw [if_neg (by omega), g3, andNot_nat _ _ (by omega) (by omega), h3, g4, ih k' (dif out (one (low out))) hdn (by omega) (by omega), Bool.false_or]
      by_cases hc : ∃ y, (dif b a).testBit y = true ∧ (dif a (one (low out)) ||| one y) ∈ B
      · rw [if_pos (by rw [decide_eq_true_eq]; exact hc)]
        congr 1
        rw [decide_eq_decide]
        constructor
        · intro h x hx
          by_cases e : low out = x
          · rw [← e]; exact hc
          · exact h x (by rw [testBit_dif, testBit_one, hx]; simp [e])
        · intro h x hx
          rw [testBit_dif, Bool.and_eq_true] at hx
          exact h x hx.1
      · rw [if_neg (by rw [decide_eq_true_eq]; exact hc)]
        congr 1
        exact (decide_eq_false (fun h => hc (h _ g2))).symm

/-- the exchange of two of a list. -/
def Exc (B : List Nat) (a b : Nat) : Prop := ∀ x, a.testBit x = true → b.testBit x = false → ∃ y, b.testBit y = true ∧ a.testBit y = false ∧ (dif a (one x) ||| one y) ∈ B

open Classical in
theorem exchange_ok (n : Int) (B : List Nat) (hB : Rise B) (hl : B.length ≤ 256) (a b : Nat) (ha : a < 256) (hb : b < 256) (k : Nat) (hk : 500 ≤ k) : axioms_exchange.f k n (toI B) (a : Int) (b : Int) = some (decide (Exc B a b)) := by
  unfold axioms_exchange.f
  rw [andNot_nat _ _ (by omega) (by omega), exchange_l0 n B hB hl a b ha hb 8 k _ (dif_lt (n := 8) ha) (pop_le _) (by omega)]
  congr 1
  rw [decide_eq_decide]
  unfold Exc
  constructor
  · intro h x h1 h2
    obtain ⟨y, h3, h4⟩ := h x (by simp [h1, h2])
    simp at h3
    exact ⟨y, h3.1, h3.2, h4⟩
  · intro h x h1
    simp at h1
    obtain ⟨y, h3, h4, h5⟩ := h x h1.1 h1.2
    exact ⟨y, by simp [h3, h4], h5⟩
end Go.Proofs.Ytkppdmlellmepaa
namespace Go.Proofs.Ytkppdmlellmepaa
open Go.RowKit Go.Proofs.YtkppdmlellmepaaW.PrintWords Go.Proofs.YtkppdmlellmepaaW.PrintLast Go.Proofs.YtkppdmlellmepaaW.PrintMore
open PB Mat

theorem get256 {n : Nat} (hn : n ≤ 8) {B : List Nat} (hlt : ∀ b, b ∈ B → b < 2 ^ n) {i : Nat} (hi : i < B.length) : B.getD i 0 < 256 := lt256_of hn (hlt _ (getD_mem hi))

open Classical in
theorem check_l2 (n : Nat) (hn : n ≤ 8) (B : List Nat) (hB : Rise B) (hlt : ∀ b, b ∈ B → b < 2 ^ n) (hl : B.length ≤ 256) (a i : Nat) (ha : a < 256) (d : Nat) : ∀ k j, j + d = B.length → d + 600 < k →
    ∃ k', k ≤ k' + d + 1 ∧ axioms_Check.l2 k (a : Int) (toI B) (B.length : Int) (i : Int) (toI B) (B.length : Int) (j : Int) (n : Int) (toI B) =
      if ∀ t, j ≤ t → t < B.length → Exc B a (B.getD t 0) then axioms_Check.l1 k' (toI B) (B.length : Int) (wrap64 ((i : Int) + 1)) (n : Int) (toI B) else some 3 := by
  induction d with
  | zero =>
    intro k j hj hk
    obtain ⟨k, rfl⟩ : ∃ m, k = m + 1 := ⟨k - 1, by omega⟩
    refine ⟨k, by omega, ?_⟩
    simp only [axioms_Check.l2]
    rw [if_neg (by omega), if_pos (fun t h1 h2 => absurd h2 (by omega))]
  | succ d ih =>
    intro k j hj hk
    obtain ⟨k, rfl⟩ : ∃ m, k = m + 1 := ⟨k - 1, by omega⟩
    obtain ⟨k', h1, h2⟩ := ih k (j + 1) (by omega) (by omega)
    refine ⟨k', by omega, ?_⟩
    simp only [axioms_Check.l2]
    rw [if_pos (by omega), if_pos (by omega), toI_length, if_pos (by omega), rd_toI, exchange_ok (n : Int) B hB hl a _ ha (get256 hn hlt (by omega)) k (by omega)]
    simp only [Option.bind_some]
    by_cases hc : Exc B a (B.getD j 0)
    · rw [if_pos (by rw [decide_eq_true_eq]; exact hc), wrap_succ _ (by omega), h2]
      by_cases hr : ∀ t, j + 1 ≤ t → t < B.length → Exc B a (B.getD t 0)
      · rw [if_pos hr, if_pos (fun t h3 h4 => ?_)]
        by_cases e : t = j
        · subst e; exact hc
        · exact hr t (by omega) h4
      · rw [if_neg hr, if_neg (fun h => hr fun t h3 h4 => h t (by omega) h4)]
    · rw [if_neg (by rw [decide_eq_true_eq]; exact hc), if_neg (fun h => hc (h j (by omega) (by omega)))]

open Classical in
theorem check_l1 (n : Nat) (hn : n ≤ 8) (B : List Nat) (hB : Rise B) (hlt : ∀ b, b ∈ B → b < 2 ^ n) (hl : B.length ≤ 256) (d : Nat) : ∀ k i, i + d = B.length → d * (B.length + 2) + 700 < k →
    axioms_Check.l1 k (toI B) (B.length : Int) (i : Int) (n : Int) (toI B) = some (if ∀ t, i ≤ t → t < B.length → ∀ u, u < B.length → Exc B (B.getD t 0) (B.getD u 0) then 0 else 3) := by
  induction d with
  | zero =>
    intro k i hi hk
    obtain ⟨k, rfl⟩ : ∃ m, k = m + 1 := ⟨k - 1, by omega⟩
    simp only [axioms_Check.l1]
    rw [if_neg (by omega), if_pos (fun t h1 h2 => absurd h2 (by omega))]
  | succ d ih =>
    intro k i hi hk
    obtain ⟨k, rfl⟩ : ∃ m, k = m + 1 := ⟨k - 1, by omega⟩
    rw [Nat.succ_mul] at hk
    obtain ⟨k', h1, h2⟩ := check_l2 n hn B hB hlt hl (B.getD i 0) i (get256 hn hlt (by omega)) B.length k 0 (by omega) (by omega)
    simp only [axioms_Check.l1]
    rw [if_pos (by omega), if_pos (by omega), toI_length, if_pos (by omega), rd_toI]
    have h0 : ((0 : Nat) : Int) = 0 := rfl
    rw [h0] at h2
    rw [h2]
    by_cases hc : ∀ t, 0 ≤ t → t < B.length → Exc B (B.getD i 0) (B.getD t 0)
    · rw [if_pos hc, wrap_succ _ (by omega), ih k' (i + 1) (by omega) (by omega)]
      by_cases hr : ∀ t, i + 1 ≤ t → t < B.length → ∀ u, u < B.length → Exc B (B.getD t 0) (B.getD u 0)
      · rw [if_pos hr, if_pos (fun t h3 h4 u hu => ?_)]
        by_cases e : t = i
        · subst e; exact hc u (by omega) hu
        · exact hr t (by omega) h4 u hu
      · rw [if_neg hr, if_neg (fun h => hr fun t h3 h4 => h t (by omega) h4)]
    · rw [if_neg hc, if_neg (fun h => hc fun t _ h4 => h i (by omega) (by omega) t h4)]

open Classical in
theorem check_l0 (n : Nat) (hn : n ≤ 8) (B : List Nat) (hlt : ∀ b, b ∈ B → b < 2 ^ n) (hl : B.length ≤ 256) (d : Nat) : ∀ k i, i + d = B.length → d < k →
    ∃ k', k ≤ k' + d + 1 ∧ axioms_Check.l0 k (toI B) (B.length : Int) (i : Int) (n : Int) (toI B) = if ∀ t, i ≤ t → t < B.length → pop (B.getD t 0) = pop (B.getD 0 0) then axioms_Check.l1 k' (toI B) (B.length : Int) 0 (n : Int) (toI B) else some 1 := by
  induction d with
  | zero =>
    intro k i hi hk
    obtain ⟨k, rfl⟩ : ∃ m, k = m + 1 := ⟨k - 1, by omega⟩
    refine ⟨k, by omega, ?_⟩
    simp only [axioms_Check.l0]
    rw [if_neg (by omega), if_pos (fun t h1 h2 => absurd h2 (by omega)), toI_length]
  | succ d ih =>
    intro k i hi hk
    obtain ⟨k, rfl⟩ : ∃ m, k = m + 1 := ⟨k - 1, by omega⟩
    obtain ⟨k', h1, h2⟩ := ih k (i + 1) (by omega) (by omega)
    refine ⟨k', by omega, ?_⟩
    simp only [axioms_Check.l0]
    rw [if_pos (by omega), if_pos (by omega), toI_length, if_pos (by omega), rd_toI, size_nat _ (get256 hn hlt (by omega))]
    simp only [Option.bind_some]
    rw [if_pos (by omega), show (0 : Int) = ((0 : Nat) : Int) from rfl, rd_toI, size_nat _ (get256 hn hlt (by omega))]
    simp only [Option.bind_some]
    by_cases hc : pop (B.getD i 0) = pop (B.getD 0 0)
    · rw [if_pos (by omega), wrap_succ _ (by omega), h2]
      by_cases hr : ∀ t, i + 1 ≤ t → t < B.length → pop (B.getD t 0) = pop (B.getD 0 0)
      · rw [if_pos hr, if_pos (fun t h3 h4 => ?_)]
        · rfl
        · by_cases e : t = i
          · subst e; exact hc
          · exact hr t (by omega) h4
      · rw [if_neg hr, if_neg (fun h => hr fun t h3 h4 => h t (by omega) h4)]
    · rw [if_neg (by omega), if_neg (fun h => hc (h i (by omega) (by omega)))]

theorem exch_iff (n : Nat) (hn : n ≤ 8) (B : List Nat) (hlt : ∀ b, b ∈ B → b < 2 ^ n) : Exch n B ↔ B.length ≠ 0 ∧ (∀ t, 0 ≤ t → t < B.length → pop (B.getD t 0) = pop (B.getD 0 0)) ∧ ∀ t, 0 ≤ t → t < B.length → ∀ u, u < B.length → Exc B (B.getD t 0) (B.getD u 0) := by
  constructor
  · intro h
    have hne : B.length ≠ 0 := fun e => h.ne (List.eq_nil_of_length_eq_zero e)
    exact ⟨hne, fun t _ ht => h.same _ _ (getD_mem ht) (getD_mem (by omega)), fun t _ ht u hu x hx1 hx2 => h.exch _ _ x (getD_mem ht) (getD_mem hu) hx1 hx2⟩
  · rintro ⟨h1, h2, h3⟩
    refine ⟨hn, fun e => h1 (by rw [e]; rfl), hlt, fun a b ha hb => ?_, fun a b x ha hb h4 h5 => ?_⟩
    · obtain ⟨i, hi, rfl⟩ := mem_getD ha
      obtain ⟨j, hj, rfl⟩ := mem_getD hb
      rw [h2 i (Nat.zero_le _) hi, h2 j (Nat.zero_le _) hj]
    · obtain ⟨i, hi, rfl⟩ := mem_getD ha
      obtain ⟨j, hj, rfl⟩ := mem_getD hb
      exact h3 i (Nat.zero_le _) hi j hj x h4 h5

/-- Check: with rounds enough it ends, and finds nothing just where bases exchange. -/
theorem check_ok (n : Nat) (hn : n ≤ 8) (B : List Nat) (hB : Rise B) (hlt : ∀ b, b ∈ B → b < 2 ^ n) (hl : B.length ≤ 256) (k : Nat) (hk : B.length * (B.length + 2) + B.length + 1000 ≤ k) :
    ∃ e, axioms_Check.f k (n : Int) (toI B) = some e ∧ (e = 0 ↔ Exch n B) := by
  classical
  rw [exch_iff n hn B hlt]
  unfold axioms_Check.f
  rw [family_ok n hn B hB hlt (by omega) k (by omega)]
  simp only [Option.bind_some]
  rw [if_pos trivial]
  obtain ⟨k, rfl⟩ : ∃ m, k = m + 1 := ⟨k - 1, by omega⟩
  simp only [axioms_Check.j0, toI_length]
  by_cases h0 : B.length = 0
  · rw [if_pos (by rw [h0]; rfl)]
    exact ⟨1, rfl, by simp [h0]⟩
  · rw [if_neg (by simpa using h0)]
    obtain ⟨k', h1, h2⟩ := check_l0 n hn B hlt hl B.length k 0 (by omega) (by omega)
    rw [show (0 : Int) = ((0 : Nat) : Int) from rfl, h2]
    by_cases hc : ∀ t, 0 ≤ t → t < B.length → pop (B.getD t 0) = pop (B.getD 0 0)
    · rw [if_pos hc, show (0 : Int) = ((0 : Nat) : Int) from rfl, check_l1 n hn B hB hlt hl B.length k' 0 (by omega) (by omega)]
      refine ⟨_, rfl, ?_⟩
      by_cases hd : ∀ t, 0 ≤ t → t < B.length → ∀ u, u < B.length → Exc B (B.getD t 0) (B.getD u 0)
      · rw [if_pos hd]; exact ⟨fun _ => ⟨h0, hc, hd⟩, fun _ => rfl⟩
      · rw [if_neg hd]; exact ⟨fun h => absurd h (by decide), fun h => absurd h.2.2 hd⟩
    · rw [if_neg hc]
      exact ⟨1, rfl, fun h => absurd h (by decide), fun h => absurd h.2.1 hc⟩

theorem check_zero {n : Nat} {B : List Nat} (h : Exch n B) (hB : Rise B) (hl : B.length ≤ 256) (k : Nat) (hk : B.length * (B.length + 2) + B.length + 1000 ≤ k) : axioms_Check.f k (n : Int) (toI B) = some 0 := by
  obtain ⟨e, h1, h2⟩ := check_ok n h.small B hB h.lt hl k hk
  rw [h1, h2.2 h]

/-- the ranks below s, v at s, nought behind. -/
def upto (n : Nat) (B : List Nat) (s v : Nat) : List Int := (List.range (2 ^ n)).map fun t => if t < s then (rk B t : Int) else if t = s then (v : Int) else 0

theorem upto_length (n : Nat) (B : List Nat) (s v : Nat) : (upto n B s v).length = 2 ^ n := by simp [upto]
theorem rd_upto (n : Nat) (B : List Nat) (s v : Nat) (hs : s < 2 ^ n) : rd (upto n B s v) (s : Int) = (v : Int) := by
  unfold rd upto
  rw [Int.toNat_natCast, List.getD_eq_getElem?_getD, List.getElem?_map, List.getElem?_range hs]
  simp
theorem upto_set (n : Nat) (B : List Nat) (s v v' : Nat) : (upto n B s v).set s (v' : Int) = upto n B s v' := by
  refine List.ext_getElem? fun i => ?_
  by_cases h : s = i
  · subst h
    unfold upto
    by_cases hs : s < 2 ^ n
    · rw [List.getElem?_set_self (by simpa using hs), List.getElem?_map, List.getElem?_range hs]; simp
    · rw [List.getElem?_eq_none (by simpa using hs), List.getElem?_eq_none (by simpa using hs)]
  · rw [List.getElem?_set_ne h]
    unfold upto
    rw [List.getElem?_map, List.getElem?_map]
    by_cases hs : i < 2 ^ n
    · rw [List.getElem?_range hs]
      simp only [Option.map_some]
      have hne : i ≠ s := fun e => h e.symm
      simp [hne]
    · rw [List.getElem?_eq_none (by simpa using hs)]; rfl
theorem upto_next (n : Nat) (B : List Nat) (s : Nat) : upto n B s (rk B s) = upto n B (s + 1) 0 := by
  unfold upto
  refine List.map_congr_left fun t _ => ?_
  by_cases h : t < s
  · rw [if_pos h, if_pos (by omega)]
  · rw [if_neg h]
    by_cases e : t = s
    · subst e; rw [if_pos rfl, if_pos (by omega)]
    · rw [if_neg e, if_neg (by omega)]; simp
theorem upto_end (n : Nat) (B : List Nat) : upto n B (2 ^ n) 0 = (List.range (2 ^ n)).map fun t => (rk B t : Int) := by
  unfold upto
  refine List.map_congr_left fun t ht => ?_
  rw [if_pos (List.mem_range.1 ht)]
theorem upto_start (n : Nat) (B : List Nat) : List.replicate (2 ^ n) 0 = upto n B 0 0 := by
  unfold upto
  symm
  rw [List.eq_replicate_iff]
  refine ⟨by simp, fun x hx => ?_⟩
  obtain ⟨t, _, rfl⟩ := List.mem_map.1 hx
  rw [if_neg (by omega)]; simp

theorem rk_take (B : List Nat) (s j : Nat) (h : j < B.length) : rk (B.take (j + 1)) s = max (rk (B.take j) s) (pop (s &&& B.getD j 0)) := by
  unfold rk
  rw [List.take_succ_eq_append_getElem h, List.foldl_append, List.getD_eq_getElem?_getD, List.getElem?_eq_getElem h]; rfl

theorem mx_max (a b : Nat) : mx (a : Int) (b : Int) = ((max a b : Nat) : Int) := by unfold mx; omega

theorem ranks_l1 (n : Nat) (hn : n ≤ 8) (B : List Nat) (hlt : ∀ b, b ∈ B → b < 2 ^ n) (hl : B.length ≤ 256) (s : Nat) (hs : s < 2 ^ n) (d : Nat) : ∀ k j, j + d = B.length → d < k →
    ∃ k', k ≤ k' + d + 1 ∧ axioms_ranks.l1 k (upto n B s (rk (B.take j) s)) (s : Int) ((2 ^ n : Nat) : Int) (s : Int) (toI B) (B.length : Int) (j : Int) (n : Int) (toI B) =
      axioms_ranks.l0 k' (upto n B (s + 1) 0) ((2 ^ n : Nat) : Int) ((s + 1 : Nat) : Int) (n : Int) (toI B) := by
  have h8 := two_pow_le_256 hn
  induction d with
  | zero =>
    intro k j hj hk
    obtain ⟨k, rfl⟩ : ∃ m, k = m + 1 := ⟨k - 1, by omega⟩
    refine ⟨k, by omega, ?_⟩
    simp only [axioms_ranks.l1]
    rw [if_neg (by omega), List.take_of_length_le (by omega), upto_next, wrap_succ _ (by omega)]
  | succ d ih =>
    intro k j hj hk
    obtain ⟨k, rfl⟩ : ∃ m, k = m + 1 := ⟨k - 1, by omega⟩
    obtain ⟨k', h1, h2⟩ := ih k (j + 1) (by omega) (by omega)
    refine ⟨k', by omega, ?_⟩
    have hb := get256 hn hlt (show j < B.length by omega)
    have ha : s &&& B.getD j 0 < 256 := Nat.and_lt_two_pow (n := 8) _ hb
    simp only [axioms_ranks.l1]
    rw [if_pos (by omega), if_pos (by omega), toI_length, if_pos (by omega), if_pos (by omega), upto_length, if_pos (by omega), rd_toI, and_nat _ _ (by omega) (by omega), size_nat _ ha]
    simp only [Option.bind_some]
    rw [rd_upto n B s _ hs, mx_max, Int.toNat_natCast, upto_set, wrap_succ _ (by omega), ← rk_take B s j (by omega), h2]

theorem ranks_l0 (n : Nat) (hn : n ≤ 8) (B : List Nat) (hlt : ∀ b, b ∈ B → b < 2 ^ n) (hl : B.length ≤ 256) (d : Nat) : ∀ k s, s + d = 2 ^ n → d * (B.length + 2) < k →
    axioms_ranks.l0 k (upto n B s 0) ((2 ^ n : Nat) : Int) (s : Int) (n : Int) (toI B) = some ((List.range (2 ^ n)).map fun t => (rk B t : Int)) := by
  induction d with
  | zero =>
    intro k s hs hk
    obtain ⟨k, rfl⟩ : ∃ m, k = m + 1 := ⟨k - 1, by omega⟩
    simp only [axioms_ranks.l0]
    obtain rfl : s = 2 ^ n := by omega
    rw [if_neg (by omega), upto_end]
  | succ d ih =>
    intro k s hs hk
    obtain ⟨k, rfl⟩ : ∃ m, k = m + 1 := ⟨k - 1, by omega⟩
    rw [Nat.succ_mul] at hk
    obtain ⟨k', h1, h2⟩ := ranks_l1 n hn B hlt hl s (by omega) B.length k 0 (by omega) (by omega)
    simp only [axioms_ranks.l0]
    rw [if_pos (by omega), toI_length]
    have h3 : rk (B.take 0) s = 0 := rfl
    rw [h3, show ((0 : Nat) : Int) = 0 from rfl] at h2
    rw [h2]
    exact ih k' (s + 1) (by omega) (by omega)

theorem ranks_ok (n : Nat) (hn : n ≤ 8) (B : List Nat) (hlt : ∀ b, b ∈ B → b < 2 ^ n) (hl : B.length ≤ 256) (k : Nat) (hk : 2 ^ n * (B.length + 2) < k) :
    axioms_ranks.f k (n : Int) (toI B) = some ((List.range (2 ^ n)).map fun t => (rk B t : Int)) := by
  have h8 := two_pow_le_256 hn
  unfold axioms_ranks.f
  rw [if_pos (by omega), one_shl n hn, if_pos (Int.natCast_nonneg _), Int.toNat_natCast, if_pos (by omega)]
  simp only [Option.bind_some]
  rw [List.length_replicate, upto_start n B]
  exact ranks_l0 n hn B hlt hl (2 ^ n) k 0 (by omega) hk

/-- all ranks, as the program has them. -/
def ranksOf (n : Nat) (B : List Nat) : List Int := (List.range (2 ^ n)).map fun t => (rk B t : Int)
@[simp] theorem ranksOf_length (n : Nat) (B : List Nat) : (ranksOf n B).length = 2 ^ n := by simp [ranksOf]
theorem rd_ranksOf (n : Nat) (B : List Nat) {s : Nat} (hs : s < 2 ^ n) : rd (ranksOf n B) (s : Int) = (rk B s : Int) := by
  unfold rd ranksOf
  rw [Int.toNat_natCast, List.getD_eq_getElem?_getD, List.getElem?_map, List.getElem?_range hs]; rfl

end Go.Proofs.Ytkppdmlellmepaa
