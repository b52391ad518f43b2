import Derived.Test.YtgadinaninkmoaaProg
import Derived.Test.YtgadinaninkmoaaM1
import Derived.Laws.StructEq
namespace Go.Proofs.Ytgadinaninkmoaa
set_option linter.unusedVariables false
set_option linter.unusedSimpArgs false
open Go.RowKit

/-! A map from pairs of numbers to Bools, made by the call. -/

def pairV (x : Int × Int) : Value := .agg #[.int .i64 x.1, .int .i64 x.2]
theorem und_p2 : ∀ (e : Bool) (x : Int × Int) (w : World), (Instr.checkKey e 10000 51 (pairV x)).run Try.prog w = .ok () w := by
  intro e x w
  suffices h : ∀ n : Nat, (Instr.checkKey e (n + 1 + 1) 51 (pairV x)).run Try.prog w = .ok () w from h 9998
  intro n
  have hz : (sizeOf 3).run Try.prog w = .ok 1 w := by kernel_rfl
  unfold pairV
  have hr : List.range' 0 2 = [0, 1] := rfl
  simp [Instr.checkKey, run_underlying Try.underlying51, run_underlying Try.underlying3, part, isAgg, go_sem, hz, hr]
set_option maxHeartbeats 1600000 in
theorem equal_p2 (x y : Int × Int) (w : World) : (Op.equal 51 (pairV x) (pairV y)).run Try.prog w = .ok (decide (x = y)) w := by
  have e : (decide (x = y)) = (decide (x.1 = y.1) && decide (x.2 = y.2)) := by
    rw [Bool.eq_iff_iff]
    simp only [Bool.and_eq_true, decide_eq_true_eq]
    exact ⟨fun h => by rw [h]; exact ⟨rfl, rfl⟩, fun h => Prod.ext h.1 h.2⟩
  rw [e]
  have hz : (sizeOf 3).run Try.prog w = .ok 1 w := by kernel_rfl
  have hr : List.range' 0 2 = [0, 1] := rfl
  have hi : ∀ (n : Nat) (a b : Int), (Op.equalIn (n + 1) 3 (.int .i64 a) (.int .i64 b)).run Try.prog w = .ok (decide (a = b)) w := by
    intro n a b
    simp [Op.equalIn, run_underlying Try.underlying3, go_sem]
    by_cases h : a = b <;> simp [h]
  have h : ∀ n : Nat, (Op.equalIn (n + 1 + 1) 51 (pairV x) (pairV y)).run Try.prog w = .ok (decide (x.1 = y.1) && decide (x.2 = y.2)) w := by
    intro n
    unfold pairV Op.equalIn
    by_cases h1 : x.1 = y.1 <;> by_cases h2 : x.2 = y.2 <;> simp [run_underlying Try.underlying51, run_underlying Try.underlying3, part, isAgg, go_sem, hz, hr, hi, h1, h2]
  unfold Op.equal Op.maxDepth
  exact h 9998
def p2Of : Value → Int × Int
  | .agg cs => (intOf (cs.getD 0 undef), intOf (cs.getD 1 undef))
  | _ => (0, 0)
theorem p2Of_agg (x : Int × Int) : p2Of (pairV x) = x := rfl
theorem run_findKeyA {P : Program} {w : World} {K et : TypeId} {n : Nat} (hK : P.underlying K = some (.array n et)) {k : Value} {p : Value → Bool} (es : List MapEntry) (h : ∀ e ∈ es, (Op.equal K k e.key).run P w = .ok (p e.key) w) :
    (Instr.findKey K k es).run P w = .ok (fk p es 0) w := by
  unfold Instr.findKey
  simp only [Sem.run_bind, run_underlying hK, Result.andThen_ok]
  cases es with
  | nil => simp [Instr.findNow, fk]
  | cons e es =>
    have h0 : ∀ e', Instr.findNow (.array n e') k (e :: es) 0 = none := fun e' => by simp [Instr.findNow, Instr.sameNow]
    rw [h0]
    exact run_findAsking _ 0 h

/-- Block b is a map that holds exactly the pairs ks, each with true. -/
def MapP (w : World) (b : Nat) (ks : List (Int × Int)) : Prop :=
  ∃ es clock, w.heap[b]? = some (.map es clock) ∧ es.toList.map (fun e => (e.key, e.val)) = ks.map fun x => (pairV x, Value.bool true)
theorem MapP.key {es : List MapEntry} {ks : List (Int × Int)} (h : es.map (fun e => (e.key, e.val)) = ks.map fun x => (pairV x, Value.bool true)) : ∀ e ∈ es, ∃ y ∈ ks, e.key = pairV y ∧ e.val = .bool true := by
  intro e he
  have : (e.key, e.val) ∈ ks.map fun x => (pairV x, Value.bool true) := by rw [← h]; exact List.mem_map.2 ⟨e, he, rfl⟩
  obtain ⟨y, hy, e1⟩ := List.mem_map.1 this
  have e2 := Prod.mk.inj e1
  exact ⟨y, hy, e2.1.symm, e2.2.symm⟩
theorem MapP.back {es : List MapEntry} {ks : List (Int × Int)} (h : es.map (fun e => (e.key, e.val)) = ks.map fun x => (pairV x, Value.bool true)) : ∀ y ∈ ks, ∃ e ∈ es, e.key = pairV y := by
  intro y hy
  have : (pairV y, Value.bool true) ∈ es.map fun e => (e.key, e.val) := by rw [h]; exact List.mem_map.2 ⟨y, hy, rfl⟩
  obtain ⟨e, he, e1⟩ := List.mem_map.1 this
  exact ⟨e, he, (Prod.mk.inj e1).1⟩
theorem fk_none' {p : Value → Bool} : ∀ {es : List MapEntry} (i : Nat), (∀ e ∈ es, p e.key = false) → fk p es i = none
  | [], _, _ => rfl
  | e :: es, i, h => by
    unfold fk
    rw [if_neg (by simp [h e (by simp)])]
    exact fk_none' (i + 1) fun e he => h e (by simp [he])
theorem fk_some' {p : Value → Bool} : ∀ {es : List MapEntry} (i : Nat), (∃ e ∈ es, p e.key = true) → ∃ j e, fk p es i = some (j, e.val) ∧ e ∈ es
  | [], _, h => by obtain ⟨e, he, _⟩ := h; cases he
  | e :: es, i, h => by
    unfold fk
    by_cases hp : p e.key = true
    · rw [if_pos hp]; exact ⟨i, e, rfl, by simp⟩
    · rw [if_neg hp]
      obtain ⟨e', he', hp'⟩ := h
      have : ∃ e ∈ es, p e.key = true := by
        rcases List.mem_cons.1 he' with rfl | h'
        · exact absurd hp' hp
        · exact ⟨e', h', hp'⟩
      obtain ⟨j, e2, h1, h2⟩ := fk_some' (i + 1) this
      exact ⟨j, e2, h1, by simp [h2]⟩
theorem mapp_lookup {w : World} {b : Nat} {ks : List (Int × Int)} (h : MapP w b ks) (x : Int × Int) :
    (Instr.lookup 81 (.map (some b)) (pairV x) false).run Try.prog w = .ok (.bool (decide (x ∈ ks))) w := by
  obtain ⟨es, clock, hb, hm⟩ := h
  have hk := MapP.key hm
  have hf := run_findKeyA (P := Try.prog) (w := w) (K := 51) Try.underlying51 (k := pairV x) (p := fun v => decide (x = p2Of v)) es.toList (fun e he => by obtain ⟨y, _, h1, _⟩ := hk e he; rw [h1]; exact equal_p2 x y w)
  have ho : (getObj b).run Try.prog w = .ok (.map es clock) w := by simp [getObj, Sem.run, hb]
  have hz : (zeroValue 4).run Try.prog w = .ok (.bool false) w := by kernel_rfl
  unfold Instr.lookup
  simp only [Sem.run_bind, run_underlying Try.underlying81, Result.andThen_ok, ho, Sem.run_pure, und_p2, hf]
  by_cases hx : x ∈ ks
  · obtain ⟨e, he, h1⟩ := MapP.back hm x hx
    obtain ⟨j, e2, h2, h3⟩ := fk_some' (p := fun v => decide (x = p2Of v)) (es := es.toList) 0 ⟨e, he, by rw [h1]; simp [p2Of_agg]⟩
    rw [h2]
    obtain ⟨_, _, _, h4⟩ := hk e2 h3
    simp [hx, h4]
  · rw [fk_none' 0 (fun e he => by
      obtain ⟨y, hy, h1, _⟩ := hk e he
      rw [h1]
      have : x ≠ y := fun e => hx (e ▸ hy)
      exact decide_eq_false this)]
    simp [hx, hz]
theorem mapp_update {w : World} {b : Nat} {ks : List (Int × Int)} (h : MapP w b ks) (x : Int × Int) (hx : x ∉ ks) :
    ∃ w', (Instr.mapUpdate 81 (.map (some b)) (pairV x) (.bool true)).run Try.prog w = .ok () w' ∧ MapP w' b (ks ++ [x]) ∧ w.grownBy w' (some b) ∧ w'.heap.size = w.heap.size := by
  obtain ⟨es, clock, hb, hm⟩ := h
  have hk := MapP.key hm
  have hf := run_findKeyA (P := Try.prog) (w := w) (K := 51) Try.underlying51 (k := pairV x) (p := fun v => decide (x = p2Of v)) es.toList (fun e he => by obtain ⟨y, _, h1, _⟩ := hk e he; rw [h1]; exact equal_p2 x y w)
  have hn : fk (fun v => decide (x = p2Of v)) es.toList 0 = none := fk_none' 0 (fun e he => by
      obtain ⟨y, hy, h1, _⟩ := hk e he
      rw [h1]
      have : x ≠ y := fun e => hx (e ▸ hy)
      exact decide_eq_false this)
  have ho : (getObj b).run Try.prog w = .ok (.map es clock) w := by simp [getObj, Sem.run, hb]
  have hr : (Instr.mapUpdate 81 (.map (some b)) (pairV x) (.bool true)).run Try.prog w = .ok () { w with heap := w.heap.setIfInBounds b (.map (es.push { key := pairV x, val := .bool true, born := clock }) (clock + 1)) } := by
    unfold Instr.mapUpdate
    simp only [Sem.run_bind, run_underlying Try.underlying81, Result.andThen_ok, ho, Sem.run_pure, und_p2, hf, hn]
    simp [setObj, Sem.run, hb]
  have hlt := blk_lt hb
  refine ⟨_, hr, ⟨_, _, by simp [hlt]; exact ⟨rfl, rfl⟩, by simp [hm]⟩, ⟨rfl, rfl, rfl, by simp, fun k hk1 hk2 => ?_⟩, by simp⟩
  have : b ≠ k := fun e => hk2 (by rw [e])
  simp [this]
theorem MapP.new (w : World) : MapP (w.alloc (.map #[] 0)) w.heap.size [] := ⟨#[], 0, blk_new _ _, rfl⟩
theorem MapP.below {w w' : World} {b : Nat} {ks : List (Int × Int)} (h : MapP w b ks) (hb : Below w.heap.size w w') : MapP w' b ks := by
  obtain ⟨es, clock, h1, h2⟩ := h
  exact ⟨es, clock, blk_below hb (blk_lt h1) h1, h2⟩
theorem MapP.lt {w : World} {b : Nat} {ks : List (Int × Int)} (h : MapP w b ks) : b < w.heap.size := by
  obtain ⟨es, clock, h1, h2⟩ := h; exact blk_lt h1
theorem MapP.chgne {w w' : World} {b : Nat} {ks : List (Int × Int)} {row : Option Nat} (h : MapP w b ks) (hg : w.grownBy w' row) (hr : row ≠ some b) : MapP w' b ks := by
  obtain ⟨es, clock, h1, h2⟩ := h
  exact ⟨es, clock, by rw [hg.block b (blk_lt h1) (fun e => hr e.symm)]; exact h1, h2⟩
theorem MapP.nocell {w : World} {b : Nat} {ks : List (Int × Int)} (h : MapP w b ks) {cs : Array Value} {t : TypeId} {fz : Nat × Nat} : w.heap[b]? ≠ some (.cells cs t fz) := by
  obtain ⟨es, clock, h1, _⟩ := h
  rw [h1]; intro e; cases e
theorem own_nomapp {w : World} {base : Nat} {e : TypeId} {size : Nat} {v : Value} {n : Nat} {xs : List Value} (h : w.ownsRow base e size v n xs) {b : Nat} {ks : List (Int × Int)} (hm : MapP w b ks) : v.ownBlock ≠ some b := by
  intro hb
  rcases h.2 with ⟨rfl, _⟩ | ⟨g, cap, cur, rfl, _, hg, _⟩
  · cases hb
  · cases hb; exact hm.nocell hg

end Go.Proofs.Ytgadinaninkmoaa
