import Derived.Test.YtddmgphlhfilnaaM2
import Derived.Test.YtddmgphlhfilnaaBA
namespace Go.Proofs.Ytddmgphlhfilnaa
set_option linter.unusedVariables false
set_option linter.unusedSimpArgs false
open Go.RowKit

/-! A map from nodes to their numbers, made by the call. -/

def entsN : List Nd → Nat → List (Value × Value)
  | [], _ => []
  | x :: xs, i => (x.agg, .int .i64 (i : Int)) :: entsN xs (i + 1)
theorem entsN_app (Ks : List Nd) (x : Nd) : ∀ i, entsN (Ks ++ [x]) i = entsN Ks i ++ [(x.agg, .int .i64 ((i + Ks.length : Nat) : Int))] := by
  induction Ks with
  | nil => intro i; simp [entsN]
  | cons y ys ih =>
    intro i
    show (_ :: entsN (ys ++ [x]) (i + 1)) = _
    rw [ih (i + 1)]
    simp [entsN]
    omega
theorem fk_ents {x : Nd} : ∀ {Ks : List Nd} {es : List MapEntry} {i : Nat} (j : Nat), es.map (fun e => (e.key, e.val)) = entsN Ks i →
    fk (fun v => decide (x = ndOf v)) es j = (fdK Ks x).map fun k => (j + k, Value.int .i64 ((i + k : Nat) : Int))
  | [], [], _, _, _ => rfl
  | [], _ :: _, _, _, h => by simp [entsN] at h
  | _ :: _, [], _, _, h => by simp [entsN] at h
  | y :: ys, e :: es, i, j, h => by
    simp only [List.map_cons, entsN, List.cons.injEq, Prod.mk.injEq] at h
    obtain ⟨⟨h1, h2⟩, h3⟩ := h
    have ih := fk_ents (x := x) (Ks := ys) (es := es) (i := i + 1) (j + 1) h3
    unfold fk fdK
    rw [h1, ndOf_agg]
    by_cases he : x = y
    · rw [if_pos (by simpa using he), if_pos he, h2]; rfl
    · rw [if_neg (by simpa using he), if_neg he, ih]
      cases fdK ys x with
      | none => rfl
      | some k => simp only [Option.map_some, Option.some.injEq, Prod.mk.injEq, Value.int.injEq, true_and]; omega
theorem ents_key {Ks : List Nd} : ∀ {i : Nat} {p : Value × Value}, p ∈ entsN Ks i → ∃ y : Nd, p.1 = y.agg := by
  induction Ks with
  | nil => intro i p h; cases h
  | cons y ys ih =>
    intro i p h
    rcases List.mem_cons.1 h with rfl | h
    · exact ⟨y, rfl⟩
    · exact ih h

/-- Block b is a map that holds exactly the nodes Ks, with the numbers from 2 on. -/
def MapN (w : World) (b : Nat) (Ks : List Nd) : Prop :=
  ∃ es clock, w.heap[b]? = some (.map es clock) ∧ es.toList.map (fun e => (e.key, e.val)) = entsN Ks 2
theorem MapN.key {es : List MapEntry} {Ks : List Nd} (h : es.map (fun e => (e.key, e.val)) = entsN Ks 2) : ∀ e ∈ es, ∃ y : Nd, e.key = y.agg := by
  intro e he
  have : (e.key, e.val) ∈ entsN Ks 2 := by rw [← h]; exact List.mem_map.2 ⟨e, he, rfl⟩
  exact ents_key this
theorem mapn_lookup {w : World} {b : Nat} {Ks : List Nd} (h : MapN w b Ks) (x : Nd) :
    (Instr.lookup 85 (.map (some b)) x.agg true).run Try.prog w = .ok (match fdK Ks x with
      | some i => .tuple #[.int .i64 ((i + 2 : Nat) : Int), .bool true]
      | none => .tuple #[.int .i64 0, .bool false]) w := by
  obtain ⟨es, clock, hb, hm⟩ := h
  obtain ⟨fs, hu, hc⟩ := und_nd
  have hk := MapN.key hm
  have hr := run_lookup_map (P := Try.prog) (w := w) (T := 85) (K := 29) (E := 3) Try.underlying85 hu hb (k := x.agg) (p := fun v => decide (x = ndOf v)) (z := .int .i64 0) (by kernel_rfl) (fun e => hc e x w)
    (fun e he => by obtain ⟨y, h1⟩ := hk e he; rw [h1]; exact equal_nd x y w) true
  rw [hr, fk_ents (x := x) 0 hm]
  cases fdK Ks x with
  | none => rfl
  | some k => simp [Nat.add_comm]
theorem mapn_update {w : World} {b : Nat} {Ks : List Nd} (h : MapN w b Ks) (x : Nd) (hx : fdK Ks x = none) :
    ∃ w', (Instr.mapUpdate 85 (.map (some b)) x.agg (.int .i64 ((Ks.length + 2 : Nat) : Int))).run Try.prog w = .ok () w' ∧ MapN w' b (Ks ++ [x]) ∧ w.grownBy w' (some b) ∧ w'.heap.size = w.heap.size := by
  obtain ⟨es, clock, hb, hm⟩ := h
  obtain ⟨fs, hu, hc⟩ := und_nd
  have hk := MapN.key hm
  have hr := run_update_new (P := Try.prog) (w := w) (T := 85) (K := 29) (E := 3) Try.underlying85 hu hb (k := x.agg) (v := .int .i64 ((Ks.length + 2 : Nat) : Int)) (p := fun v => decide (x = ndOf v)) (fun e => hc e x w)
    (fun e he => by obtain ⟨y, h1⟩ := hk e he; rw [h1]; exact equal_nd x y w) (by rw [fk_ents (x := x) 0 hm, hx]; rfl)
  have hlt := blk_lt hb
  refine ⟨_, hr, ⟨_, _, by simp [hlt]; exact ⟨rfl, rfl⟩, by simp [hm, entsN_app]; omega⟩, ⟨rfl, rfl, rfl, by simp, fun k hk1 hk2 => ?_⟩, by simp⟩
  have : b ≠ k := fun e => hk2 (by rw [e])
  simp [this]
theorem MapN.new (w : World) : MapN (w.alloc (.map #[] 0)) w.heap.size [] := ⟨#[], 0, blk_new _ _, rfl⟩
theorem MapN.below {w w' : World} {b : Nat} {Ks : List Nd} (h : MapN w b Ks) (hb : Below w.heap.size w w') : MapN w' b Ks := by
  obtain ⟨es, clock, h1, h2⟩ := h
  exact ⟨es, clock, blk_below hb (blk_lt h1) h1, h2⟩
theorem MapN.lt {w : World} {b : Nat} {Ks : List Nd} (h : MapN w b Ks) : b < w.heap.size := by
  obtain ⟨es, clock, h1, h2⟩ := h; exact blk_lt h1

end Go.Proofs.Ytddmgphlhfilnaa
