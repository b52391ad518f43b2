import Derived.Test.YtindndcdpnpcmaaA0
namespace Go.Proofs.Ytindndcdpnpcmaa
set_option linter.unusedVariables false
set_option linter.unusedSimpArgs false
open Go.RowKit

/-! Maps whose keys are structs of integers: the entries are known whole. -/

def fk (p : Value → Bool) : List MapEntry → Nat → Option (Nat × Value)
  | [], _ => none
  | e :: es, i => if p e.key then some (i, e.val) else fk p es (i + 1)

theorem run_findAsking {P : Program} {w : World} {K : TypeId} {k : Value} {p : Value → Bool} : ∀ (es : List MapEntry) (i : Nat), (∀ e ∈ es, (Op.equal K k e.key).run P w = .ok (p e.key) w) →
    (Instr.findAsking K k es i).run P w = .ok (fk p es i) w
  | [], i, _ => by simp [Instr.findAsking, fk]
  | e :: es, i, h => by
    have h1 := h e (by simp)
    have h2 := run_findAsking es (i + 1) (fun e he => h e (by simp [he]))
    unfold Instr.findAsking fk
    simp only [Sem.run_bind, h1, Result.andThen_ok]
    cases p e.key
    · simpa using h2
    · simp

theorem run_findKey {P : Program} {w : World} {K : TypeId} {fs : Array Field} (hK : P.underlying K = some (.struct fs)) {k : Value} {p : Value → Bool} (es : List MapEntry) (h : ∀ e ∈ es, (Op.equal K k e.key).run P w = .ok (p e.key) w) :
    (Instr.findKey K k es).run P w = .ok (fk p es 0) w := by
  unfold Instr.findKey
  simp only [Sem.run_bind, run_underlying hK, Result.andThen_ok]
  cases es with
  | nil => simp [Instr.findNow, fk]
  | cons e es =>
    have : Instr.findNow (.struct fs) k (e :: es) 0 = none := by simp [Instr.findNow, Instr.sameNow]
    rw [this]
    exact run_findAsking _ 0 h

theorem run_lookup_map {P : Program} {w : World} {T K E : TypeId} {fs : Array Field} (hT : P.underlying T = some (.map K E)) (hK : P.underlying K = some (.struct fs)) {b : Nat} {es : Array MapEntry} {clock : Nat} (hb : w.heap[b]? = some (.map es clock))
    {k : Value} {p : Value → Bool} {z : Value} (hz : (zeroValue E).run P w = .ok z w) (hc : ∀ e, (Instr.checkKey e 10000 K k).run P w = .ok () w) (h : ∀ e ∈ es.toList, (Op.equal K k e.key).run P w = .ok (p e.key) w) (ok : Bool) :
    (Instr.lookup T (.map (some b)) k ok).run P w = .ok (match fk p es.toList 0 with
      | some (_, v) => if ok then .tuple #[v, .bool true] else v
      | none => if ok then .tuple #[z, .bool false] else z) w := by
  have hf := run_findKey hK es.toList h
  unfold Instr.lookup
  simp only [Sem.run_bind, run_underlying hT, Result.andThen_ok]
  have ho : (getObj b).run P w = .ok (.map es clock) w := by simp [getObj, Sem.run, hb]
  simp only [ho, Result.andThen_ok, Sem.run_bind, Sem.run_pure, hc, hf]
  cases fk p es.toList 0 with
  | none => simp [hz]
  | some x => simp

theorem run_update_new {P : Program} {w : World} {T K E : TypeId} {fs : Array Field} (hT : P.underlying T = some (.map K E)) (hK : P.underlying K = some (.struct fs)) {b : Nat} {es : Array MapEntry} {clock : Nat} (hb : w.heap[b]? = some (.map es clock))
    {k v : Value} {p : Value → Bool} (hc : ∀ e, (Instr.checkKey e 10000 K k).run P w = .ok () w) (h : ∀ e ∈ es.toList, (Op.equal K k e.key).run P w = .ok (p e.key) w) (hn : fk p es.toList 0 = none) :
    (Instr.mapUpdate T (.map (some b)) k v).run P w = .ok () { w with heap := w.heap.setIfInBounds b (.map (es.push { key := k, val := v, born := clock }) (clock + 1)) } := by
  have hf := run_findKey hK es.toList h
  unfold Instr.mapUpdate
  simp only [Sem.run_bind, run_underlying hT, Result.andThen_ok]
  have ho : (getObj b).run P w = .ok (.map es clock) w := by simp [getObj, Sem.run, hb]
  simp only [ho, Result.andThen_ok, Sem.run_bind, Sem.run_pure, hc, hf, hn]
  simp [setObj, Sem.run, hb]

end Go.Proofs.Ytindndcdpnpcmaa
