/-
  A set of integers: a map of bools that the call has made.
-/
import Derived.Test.YtkppdmlellmepaaPBx3
import Derived.Maps.OwnSet
namespace Go.Proofs.Ytkppdmlellmepaa
open Go.RowKit Go.Maps Go.Proofs.YtkppdmlellmepaaW.PrintWords Go.Proofs.YtkppdmlellmepaaW.PrintLast Go.Proofs.YtkppdmlellmepaaW.PrintMore

theorem law3 : Keyed Try.prog 3 := int_keyed Try.underlying3
theorem zero4 (w : World) : (zeroValue 4).run Try.prog w = .ok (.bool false) w := by kernel_rfl

def setD (S : List Int) : DataW Unit := setOf (.lit (.bool true)) (S.map (Lit.int .i64))
/-- block gm is a map that says of S's elements that they are there. -/
def MapAt (W : World) (gm : Nat) (S : List Int) : Prop := W.ownsMap Try.prog 3 (plainElem Try.prog 4) gm S.length (setD S)

def inR (x : Int) : Bool := (Lit.int .i64 x).wf

theorem isKeyI (x : Int) : WideAt.IsKeyLit (Lit.int .i64 x) := trivial

theorem atKey_fold (u z : DataW Unit) (k : Lit) : ∀ (acc : List Lit) (m : DataW Unit), IsMap m → (∀ x ∈ acc, WideAt.IsKeyLit x) →
    (k ∈ acc → (acc.foldl (fun m x => m.put x u) m).atKey k z = u) ∧ (k ∉ acc → (acc.foldl (fun m x => m.put x u) m).atKey k z = m.atKey k z)
  | [], m, _, _ => ⟨fun h => absurd h (by simp), fun _ => rfl⟩
  | x :: xs, m, hm, hk => by
    obtain ⟨h1, h2⟩ := atKey_fold u z k xs (m.put x u) (hm.put x u) (fun y hy => hk y (List.mem_cons_of_mem _ hy))
    have key : k ∈ xs ∨ k ∉ xs := Classical.em _
    constructor
    · intro h
      rcases key with h3 | h3
      · exact h1 h3
      · have e : k = x := by rcases List.mem_cons.1 h with e | e; exact e; exact absurd e h3
        subst e
        exact (h2 h3).trans (atKey_put_same hm (hk k (by simp)) u z)
    · intro h
      have h3 : k ∉ xs := fun e => h (List.mem_cons_of_mem _ e)
      have h4 : k ≠ x := fun e => h (by rw [e]; simp)
      exact (h2 h3).trans (atKey_put_other h4 u z)

theorem plainElem_bool_inv' {P : Program} {e : TypeId} (he : P.underlying e = some .bool) {v : Value} {z : DataW Unit × List MemPlace} (h : plainElem P e v = some z) : ∃ x, v = .bool x ∧ z = (.lit (.bool x), []) := by
  unfold plainElem at h
  rw [he] at h
  cases v with
  | bool x => exact ⟨x, rfl, by injection h with h; exact h.symm⟩
  | _ => exact absurd h (by intro h; injection h)

theorem plainElem_bool_inv {v : Value} {z : DataW Unit × List MemPlace} (h : plainElem Try.prog 4 v = some z) : ∃ x, v = .bool x ∧ z = (.lit (.bool x), []) := plainElem_bool_inv' Try.underlying4 h

set_option maxRecDepth 100000 in
/-- a look-up tells whether it is there. -/
theorem MapAt.look {W : World} {gm : Nat} {S : List Int} (h : MapAt W gm S) (x : Int) (hx : inR x = true) :
    (Instr.lookup 81 (.map (some gm)) (.int .i64 x) false).run Try.prog W = .ok (.bool (S.contains x)) W := by
  have hkey : keyOf Try.prog 3 (.int .i64 x) = some (.int .i64 x) := keyOf_int_mk Try.underlying3 hx
  obtain ⟨v, ps, hrun, hv⟩ := World.ownsMap.lookup h law3 Try.underlying81 (zero4 W) (plainElem_bool Try.underlying4 false) hkey
  obtain ⟨y, rfl, hy⟩ := plainElem_bool_inv hv
  rw [hrun]
  injection hy with hy _
  have hf := atKey_fold (.lit (.bool true)) (.lit (.bool false)) (.int .i64 x) (S.map (Lit.int .i64)) (.map []) isMap_empty (by
    intro k hk
    obtain ⟨q, _, rfl⟩ := List.mem_map.1 hk
    exact isKeyI q)
  by_cases hm : x ∈ S
  · have h1 := hf.1 (List.mem_map.2 ⟨x, hm, rfl⟩)
    have h2 : (setD S).atKey (.int .i64 x) (.lit (.bool false)) = .lit (.bool true) := h1
    rw [h2] at hy
    injection hy with hy
    injection hy with hy
    subst hy
    simp [hm]
  · have h1 := hf.2 (fun e => by
      obtain ⟨q, hq, e2⟩ := List.mem_map.1 e
      injection e2 with _ e3
      exact hm (e3 ▸ hq))
    have h2 : (setD S).atKey (.int .i64 x) (.lit (.bool false)) = .lit (.bool false) := h1
    rw [h2] at hy
    injection hy with hy
    injection hy with hy
    subst hy
    simp [hm]

theorem MapAt.made (w : World) : MapAt (w.alloc (.map #[] 0)) w.heap.size [] := World.ownsMap_made _ _ _ _

theorem MapAt.put {W1 : World} {gm : Nat} {S : List Int} {x : Int} (h : W1.ownsMap Try.prog 3 (plainElem Try.prog 4) gm (S.length + 1) ((setD S).put (.int .i64 x) (.lit (.bool true)))) : MapAt W1 gm (S ++ [x]) := by
  unfold MapAt
  have e : setD (S ++ [x]) = (setD S).put (.int .i64 x) (.lit (.bool true)) := by
    unfold setD
    rw [List.map_append, List.map_cons, List.map_nil, setOf_snoc]
  rw [e, List.length_append]
  exact h
end Go.Proofs.Ytkppdmlellmepaa
