/-
  The sort of complex.Lexical: its closure, slices.SortFunc with it.
-/
import Derived.Test.YtkppdmlellmepaaLexA
import Derived.Test.YtkppdmlellmepaaShelfC
import Derived.Test.YtkppdmlellmepaaExtClone
namespace Go.Proofs.Ytkppdmlellmepaa
open Go.RowKit Go.Sort Go.Proofs.YtkppdmlellmepaaW.PrintWords Go.Proofs.YtkppdmlellmepaaW.PrintLast Go.Proofs.YtkppdmlellmepaaW.PrintMore
open PB Mat

set_option maxHeartbeats 800000 in
/-- the closure: as of the numbers' bits. -/
theorem cmp38_gen (a b x m : Int) (w : World) (hx : Go.bits .xor .i64 a b = x) (hm : Go.bits .and .i64 x (wrap64 (-x)) = m) :
    Calls Try.prog 38 #[.int .i64 a, .int .i64 b] w fun e w' => e = .returned (.int .i64 (if x = 0 then 0 else if Go.bits .and .i64 a m = 0 then 1 else -1)) ∧ ∃ q, w' = w.drewN q := by
  by_cases h0 : x = 0
  · go_enter Try.func38, Try.ntmps38
    rw [if_pos h0]
    go_wp2
    go_ret
    exact ⟨rfl, 0, rfl⟩
  · by_cases h1 : Go.bits .and .i64 a m = 0
    · go_enter Try.func38, Try.ntmps38
      rw [if_neg h0, if_pos h1]
      go_wp2
      go_ret
      exact ⟨rfl, 0, rfl⟩
    · go_enter Try.func38, Try.ntmps38
      rw [if_neg h0, if_neg h1]
      go_wp2
      go_ret
      exact ⟨rfl, 0, rfl⟩

theorem one_lt' {i : Nat} (h : i < 8) : Mat.one i < 256 := by revert h; revert i; decide

def iv (x : Fin 256) : Int := (x.val : Int)
def encF (x : Fin 256) : Value := .int .i64 (iv x)

theorem cmp38_calls (a b : Fin 256) (w : World) :
    Calls Try.prog 38 #[encF a, encF b] w fun e w' => e = .returned (.int .i64 (cfF a b)) ∧ ∃ q, w' = w.drewN q := by
  have hx := xor_nat a.val b.val (by omega) (by omega)
  by_cases e : a.val = b.val
  · have e0 : a.val ^^^ b.val = 0 := by rw [e, Nat.xor_self]
    rw [e0] at hx
    have h := cmp38_gen (iv a) (iv b) 0 0 w hx (by decide +kernel)
    rw [if_pos rfl] at h
    have : cfF a b = 0 := by unfold cfF cfN; rw [if_pos e]
    rw [this]
    exact h
  · have hxl : a.val ^^^ b.val < 256 := Nat.xor_lt_two_pow (n := 8) a.isLt b.isLt
    have hne := xor_ne e
    obtain ⟨g1, g2, g3, _⟩ := low_spec _ hxl hne
    have h := cmp38_gen (iv a) (iv b) _ _ w hx g3
    rw [if_neg (by omega)] at h
    have h4 : Go.bits .and .i64 (iv a) ((Mat.one (low (a.val ^^^ b.val)) : Nat) : Int) = ((a.val &&& Mat.one (low (a.val ^^^ b.val)) : Nat) : Int) := and_nat _ _ (by omega) (by have := one_lt' g1; omega)
    rw [h4] at h
    have : (if ((a.val &&& Mat.one (low (a.val ^^^ b.val)) : Nat) : Int) = 0 then (1 : Int) else -1) = cfF a b := by
      unfold cfF cfN
      rw [if_neg e]
      by_cases k : a.val.testBit (low (a.val ^^^ b.val)) = true
      · rw [if_pos k, if_neg]
        have := and_one.2 k
        omega
      · rw [if_neg k, if_pos]
        have : ¬ (a.val &&& Mat.one (low (a.val ^^^ b.val)) ≠ 0) := fun h => k (and_one.1 h)
        omega
    rw [this] at h
    exact h

theorem cmp38_reads (blk off size : Nat) (w : World) : CmpReads Try.prog 38 #[] encF cfF blk off size w := fun _ _ _ _ x y => cmp38_calls x y _

theorem get_iv (L : List (Fin 256)) (j : Nat) (h : j < L.length) : encF L.toArray[j]! = Value.int .i64 (L.map iv).toArray[j]! := by
  unfold encF
  rw [getElem!_pos L.toArray j (by simpa using h), getElem!_pos (L.map iv).toArray j (by simpa using h)]
  simp

theorem holds_iv {w : World} {g off : Nat} {L : List (Fin 256)} (h : Holds (Value.int .i64) w g off (L.map iv).toArray) : Holds encF w g off L.toArray := by
  intro j hj
  have hj' : j < L.length := by simpa using hj
  obtain ⟨h1, h2⟩ := h j (by simpa using hj')
  exact ⟨by rw [get_iv L j hj']; exact h1, h2⟩

theorem putRow_iv (w : World) (g off : Nat) (L : List (Fin 256)) : putRow encF w g off L.toArray = putRow (Value.int .i64) w g off (L.map iv).toArray := by
  unfold putRow
  refine mapBlock_congr w g _ _ fun c e fr _ => ?_
  unfold putCells
  congr 1
  funext k x
  simp only [List.size_toArray, List.length_map]
  by_cases h : off ≤ k ∧ k < off + L.length
  · rw [if_pos h, if_pos h, get_iv L (k - off) (by omega)]
  · rw [if_neg h, if_neg h]

/-- by their elements. -/
def lexF (L : List (Fin 256)) : List (Fin 256) := L.mergeSort fun x y => !(ltOf cfF) y x

/-- slices.SortFunc of a row of the caller's own. -/
theorem lexsort_calls {base : Nat} {ok : Nat → Prop} {v : Value} {L : List (Fin 256)} {w : World} (h : Kd.R (Kd.int .i64) 3 w base ok v (L.map iv)) (hs : L.length < 4611686018427387904) :
    Calls Try.prog 37 #[v, .func (.func 38) #[] #[]] w fun e w' => e = .returned (.tuple #[]) ∧ Kd.R (Kd.int .i64) 3 w' base ok v ((lexF L).map iv) ∧ w.grownBy w' v.ownBlock := by
  have ho := Kd.own_of_R h
  have eg : ∀ args w, (callFunc 38 args).run Try.prog w = .ok (.enter 38 args) w := enters_of Try.func38 (by kernel_rfl) rfl
  cases hl : L with
  | nil =>
    subst hl
    obtain ⟨A, c, hv⟩ := Kd.R_slice h
    subst hv
    have hS := AnyF.slices_SortFunc_none (P := Try.prog) (ρ := Try.sortK_ren) { Try.sortK with } A c (.func (.func 38) #[] #[]) w
    change Calls Try.prog 37 _ _ _ at hS
    refine hS.mono fun e w' ⟨he, hw⟩ => ?_
    subst hw
    have e0 : (lexF []).map iv = [] := by simp [lexF]
    rw [e0]
    exact ⟨he, h, grown_of_below (Below.refl _ _) _⟩
  | cons x xs =>
    have hp : 0 < L.length := by rw [hl]; simp
    have hlen : (L.map iv).length = L.length := by simp
    rw [← hl]
    rcases ho.2 with ⟨_, h0⟩ | ⟨g, cap, cur, hv, hb, hh, h1, h2, h3, h4⟩
    · omega
    · subst hv
      have hH := holds_of_blockI (ss := L.map iv) hh (by simpa [encs] using h4)
      have hS := Any.slices_SortFunc_total Try.sortK encF (fun _ => rfl) cfF swo_cfF 38 #[] g 0 cap L.toArray w eg (cmp38_reads g 0 L.toArray.size w).lays (holds_iv hH) (Array.getElem?_eq_some_iff.1 hh).1 (by simpa using hs) tot_cfF
      rw [List.size_toArray] at hS
      change Calls Try.prog 37 _ _ _ at hS
      rw [← hlen] at hS
      refine hS.mono fun e w' ⟨he, n, os, hw⟩ => ?_
      subst hw
      unfold sortWorld
      rw [putRow_iv]
      have hll : ((lexF L).map iv).length = (L.map iv).length := by simp [lexF, List.length_mergeSort]
      have hown := ownsRow_sortedI (n := n) (os := os) (ss := L.map iv) (ts := (lexF L).map iv) hll hb hh h1 h2 h3
      refine ⟨he, ?_, grownBy_sortedI _⟩
      exact Kd.R_of_own (by rw [hll]; exact hown) (fun k hk => h.1 k hk)
end Go.Proofs.Ytkppdmlellmepaa
