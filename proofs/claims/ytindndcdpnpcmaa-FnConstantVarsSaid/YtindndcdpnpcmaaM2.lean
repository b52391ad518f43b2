import Derived.Test.YtindndcdpnpcmaaN1
import Derived.Test.YtindndcdpnpcmaaM1
import Derived.Laws.StructEq
namespace Go.Proofs.Ytindndcdpnpcmaa
set_option linter.unusedVariables false
set_option linter.unusedSimpArgs false
open Go.RowKit

/-! A map from nodes to Bools, made by the call. -/

def Nd.agg (x : Nd) : Value := .agg #[.int .i64 x.v, .int .i64 x.lo, .int .i64 x.hi]

def ndOf : Value → Nd
  | .agg cs => ⟨intOf (cs.getD 0 undef), intOf (cs.getD 1 undef), intOf (cs.getD 2 undef)⟩
  | _ => default
theorem ndOf_agg (x : Nd) : ndOf x.agg = x := rfl
theorem agg_inj {x y : Nd} (h : x.agg = y.agg) : x = y := by rw [← ndOf_agg x, h, ndOf_agg]

theorem fk_none {p : Value → Bool} : ∀ {es : List MapEntry} (i : Nat), (∀ e ∈ es, p e.key = false) → fk p es i = none
  | [], _, _ => rfl
  | e :: es, i, h => by
    unfold fk
    rw [if_neg (by simp [h e (by simp)])]
    exact fk_none (i + 1) (fun e he => h e (by simp [he]))
theorem fk_some {p : Value → Bool} : ∀ {es : List MapEntry} (i : Nat), (∃ e ∈ es, p e.key = true) → ∃ j e, fk p es i = some (j, e.val) ∧ e ∈ es
  | [], _, h => by simp at h
  | e :: es, i, h => by
    unfold fk
    by_cases hp : p e.key = true
    · rw [if_pos hp]; exact ⟨i, e, rfl, by simp⟩
    · rw [if_neg hp]
      obtain ⟨e', he', hp'⟩ := h
      have : ∃ e ∈ es, p e.key = true := by
        rcases List.mem_cons.1 he' with rfl | h'
        · exact absurd hp' hp
        · exact ⟨e', h', hp'⟩
      obtain ⟨j, e2, h1, h2⟩ := fk_some (i + 1) this
      exact ⟨j, e2, h1, by simp [h2]⟩

/-- Block b is a map that holds exactly the nodes ks, each with true. -/
def MapOf (w : World) (b : Nat) (ks : List Nd) : Prop :=
  ∃ es clock, w.heap[b]? = some (.map es clock) ∧ es.toList.map (fun e => (e.key, e.val)) = ks.map fun x => (x.agg, .bool true)
theorem MapOf.key {es : List MapEntry} {ks : List Nd} (h : es.map (fun e => (e.key, e.val)) = ks.map fun x => (x.agg, Value.bool true)) : ∀ e ∈ es, ∃ y ∈ ks, e.key = y.agg ∧ e.val = .bool true := by
  intro e he
  have : (e.key, e.val) ∈ ks.map fun x => (x.agg, Value.bool true) := by rw [← h]; exact List.mem_map.2 ⟨e, he, rfl⟩
  obtain ⟨y, hy, e1⟩ := List.mem_map.1 this
  have e2 := Prod.mk.inj e1
  exact ⟨y, hy, e2.1.symm, e2.2.symm⟩
theorem MapOf.back {es : List MapEntry} {ks : List Nd} (h : es.map (fun e => (e.key, e.val)) = ks.map fun x => (x.agg, Value.bool true)) : ∀ y ∈ ks, ∃ e ∈ es, e.key = y.agg := by
  intro y hy
  have : (y.agg, Value.bool true) ∈ es.map fun e => (e.key, e.val) := by rw [h]; exact List.mem_map.2 ⟨y, hy, rfl⟩
  obtain ⟨e, he, e1⟩ := List.mem_map.1 this
  exact ⟨e, he, (Prod.mk.inj e1).1⟩

theorem MapOf.new (w : World) : MapOf (w.alloc (.map #[] 0)) w.heap.size [] := ⟨#[], 0, blk_new _ _, rfl⟩
theorem MapOf.below {w w' : World} {b : Nat} {ks : List Nd} (h : MapOf w b ks) (hb : Below w.heap.size w w') : MapOf w' b ks := by
  obtain ⟨es, clock, h1, h2⟩ := h
  exact ⟨es, clock, blk_below hb (blk_lt h1) h1, h2⟩
theorem MapOf.lt {w : World} {b : Nat} {ks : List Nd} (h : MapOf w b ks) : b < w.heap.size := by
  obtain ⟨es, clock, h1, h2⟩ := h; exact blk_lt h1

end Go.Proofs.Ytindndcdpnpcmaa
