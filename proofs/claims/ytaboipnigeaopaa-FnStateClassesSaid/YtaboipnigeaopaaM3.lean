import Derived.Test.YtaboipnigeaopaaM1
import Derived.Test.YtaboipnigeaopaaOA
namespace Go.Proofs.Ytaboipnigeaopaa
set_option linter.unusedVariables false
set_option linter.unusedSimpArgs false
open Go.RowKit

/-! A map from ints to Bools, made by the call. -/

theorem findNow_int (x : Int) : ∀ (es : List MapEntry) (i : Nat), (∀ e ∈ es, ∃ y, e.key = .int .i64 y) → Instr.findNow (.int .i64) (.int .i64 x) es i = some (fk (fun v => decide (x = intOf v)) es i)
  | [], i, _ => rfl
  | e :: es, i, h => by
    obtain ⟨y, hy⟩ := h e (by simp)
    have ih := findNow_int x es (i + 1) (fun e he => h e (by simp [he]))
    unfold Instr.findNow fk
    rw [hy]
    have e1 : Instr.sameNow (.int .i64) (.int .i64 x) (.int .i64 y) = some (x == y) := by simp [Instr.sameNow]
    rw [e1]
    by_cases hxy : x = y
    · subst hxy; simp [intOf]
    · have h2 : (x == y) = false := by simpa using hxy
      rw [h2]
      simp [intOf, hxy, ih]
theorem run_findKey_int {P : Program} {w : World} {K : TypeId} (hK : P.underlying K = some (.int .i64)) {x : Int} (es : List MapEntry) (h : ∀ e ∈ es, ∃ y, e.key = .int .i64 y) :
    (Instr.findKey K (.int .i64 x) es).run P w = .ok (fk (fun v => decide (x = intOf v)) es 0) w := by
  unfold Instr.findKey
  simp only [Sem.run_bind, run_underlying hK, Result.andThen_ok, findNow_int x es 0 h]
  rfl

theorem fki_none {p : Value → Bool} : ∀ {es : List MapEntry} (i : Nat), (∀ e ∈ es, p e.key = false) → fk p es i = none
  | [], _, _ => rfl
  | e :: es, i, h => by
    unfold fk
    rw [if_neg (by simp [h e (by simp)])]
    exact fki_none (i + 1) (fun e he => h e (by simp [he]))
theorem fki_some {p : Value → Bool} : ∀ {es : List MapEntry} (i : Nat), (∃ e ∈ es, p e.key = true) → ∃ j e, fk p es i = some (j, e.val) ∧ e ∈ es
  | [], _, h => by simp at h
  | e :: es, i, h => by
    unfold fk
    by_cases hp : p e.key = true
    · rw [if_pos hp]; exact ⟨i, e, rfl, by simp⟩
    · rw [if_neg hp]
      obtain ⟨e', he', hp'⟩ := h
      have : ∃ e ∈ es, p e.key = true := by
        rcases List.mem_cons.1 he' with rfl | h'
        · exact absurd hp' hp
        · exact ⟨e', h', hp'⟩
      obtain ⟨j, e2, h1, h2⟩ := fki_some (i + 1) this
      exact ⟨j, e2, h1, by simp [h2]⟩

/-- Block b is a map that holds exactly the numbers ks, each with true. -/
def MapI (w : World) (b : Nat) (ks : List Int) : Prop :=
  ∃ es clock, w.heap[b]? = some (.map es clock) ∧ es.toList.map (fun e => (e.key, e.val)) = ks.map fun x => (Value.int .i64 x, Value.bool true)
theorem MapI.key {es : List MapEntry} {ks : List Int} (h : es.map (fun e => (e.key, e.val)) = ks.map fun x => (Value.int .i64 x, Value.bool true)) : ∀ e ∈ es, ∃ y ∈ ks, e.key = .int .i64 y ∧ e.val = .bool true := by
  intro e he
  have : (e.key, e.val) ∈ ks.map fun x => (Value.int .i64 x, Value.bool true) := by rw [← h]; exact List.mem_map.2 ⟨e, he, rfl⟩
  obtain ⟨y, hy, e1⟩ := List.mem_map.1 this
  have e2 := Prod.mk.inj e1
  exact ⟨y, hy, e2.1.symm, e2.2.symm⟩
theorem MapI.back {es : List MapEntry} {ks : List Int} (h : es.map (fun e => (e.key, e.val)) = ks.map fun x => (Value.int .i64 x, Value.bool true)) : ∀ y ∈ ks, ∃ e ∈ es, e.key = .int .i64 y := by
  intro y hy
  have : (Value.int .i64 y, Value.bool true) ∈ es.map fun e => (e.key, e.val) := by rw [h]; exact List.mem_map.2 ⟨y, hy, rfl⟩
  obtain ⟨e, he, e1⟩ := List.mem_map.1 this
  exact ⟨e, he, (Prod.mk.inj e1).1⟩
theorem check_int (e : Bool) (x : Int) (w : World) : (Instr.checkKey e 10000 3 (.int .i64 x)).run Try.prog w = .ok () w := by
  suffices h : ∀ n : Nat, (Instr.checkKey e (n + 1) 3 (.int .i64 x)).run Try.prog w = .ok () w from h 9999
  intro n
  simp [Instr.checkKey, run_underlying Try.underlying3, go_sem]

theorem MapI.new (w : World) : MapI (w.alloc (.map #[] 0)) w.heap.size [] := ⟨#[], 0, blk_new _ _, rfl⟩
theorem MapI.below {w w' : World} {b : Nat} {ks : List Int} (h : MapI w b ks) (hb : Below w.heap.size w w') : MapI w' b ks := by
  obtain ⟨es, clock, h1, h2⟩ := h
  exact ⟨es, clock, blk_below hb (blk_lt h1) h1, h2⟩
theorem MapI.lt {w : World} {b : Nat} {ks : List Int} (h : MapI w b ks) : b < w.heap.size := by
  obtain ⟨es, clock, h1, h2⟩ := h; exact blk_lt h1
theorem MapI.chgne {w w' : World} {b : Nat} {ks : List Int} {row : Option Nat} (h : MapI w b ks) (hg : w.grownBy w' row) (hr : row ≠ some b) : MapI w' b ks := by
  obtain ⟨es, clock, h1, h2⟩ := h
  exact ⟨es, clock, by rw [hg.block b (blk_lt h1) (fun e => hr e.symm)]; exact h1, h2⟩

end Go.Proofs.Ytaboipnigeaopaa
