import Derived.Test.YtindndcdpnpcmaaRK
import Derived.Test.YtindndcdpnpcmaaOU
import Derived.Test.YtindndcdpnpcmaaSF
import Derived.Test.YtindndcdpnpcmaaU1
import Derived.Test.YtindndcdpnpcmaaH6
namespace Go.Proofs.Ytindndcdpnpcmaa
set_option linter.unusedVariables false
set_option linter.unusedSimpArgs false
open Go.RowKit

/-! What removing redundancy does: plain laws. -/

theorem findN_neg {p : Int → Bool} {N : Nat} (h : findN p N < 0) (x : Nat) (hx : x < N) : p (x : Int) = false := by
  unfold findN at h
  cases e : (List.range N).find? (fun (x : Nat) => p (x : Int)) with
  | none => simpa using List.find?_eq_none.1 e x (List.mem_range.2 hx)
  | some y => rw [e] at h; simp at h; omega
theorem findN_hit {p : Int → Bool} {N : Nat} (h : ¬ findN p N < 0) : ∃ x : Nat, x < N ∧ findN p N = x ∧ p (x : Int) = true := by
  unfold findN at h ⊢
  cases e : (List.range N).find? (fun (x : Nat) => p (x : Int)) with
  | none => rw [e] at h; simp at h
  | some y => exact ⟨y, List.mem_range.1 (List.mem_of_find?_eq_some e), rfl, List.find?_some (p := fun (x : Nat) => p (x : Int)) e⟩
theorem frstU_some_und {c : Cir} {F : Nat} : ∀ {n : Nat} {k : Nat} {v : Bool}, frstU c F n = some (k, v) → undB c ((F + k : Nat) : Int) v = true
  | 0, _, _, h => by cases h
  | n + 1, k, v, h => by
    have h' : (match frstU c F n with | some r => some r | none => if undB c ((F + n : Nat) : Int) false then some (n, false) else if undB c ((F + n : Nat) : Int) true then some (n, true) else none) = some (k, v) := h
    cases e : frstU c F n with
    | some r => rw [e] at h'; simp at h'; subst h'; exact frstU_some_und e
    | none =>
      rw [e] at h'
      simp only at h'
      split at h'
      · simp at h'; obtain ⟨rfl, rfl⟩ := h'; assumption
      · split at h'
        · simp at h'; obtain ⟨rfl, rfl⟩ := h'; assumption
        · cases h'
theorem frstU_none_und {c : Cir} {F : Nat} : ∀ {n : Nat}, frstU c F n = none → ∀ k v, k < n → undB c ((F + k : Nat) : Int) v = false
  | 0, _, _, _, hk => by omega
  | n + 1, h, k, v, hk => by
    have h' : (match frstU c F n with | some r => some r | none => if undB c ((F + n : Nat) : Int) false then some (n, false) else if undB c ((F + n : Nat) : Int) true then some (n, true) else none) = none := h
    cases e : frstU c F n with
    | some r => rw [e] at h'; cases h'
    | none =>
      rw [e] at h'
      simp only at h'
      rcases Nat.lt_or_ge k n with h1 | h1
      · exact frstU_none_und e k v h1
      · obtain rfl : k = n := by omega
        split at h'
        · cases h'
        · split at h'
          · cases h'
          · cases v
            · simpa using ‹¬ undB c ((F + k : Nat) : Int) false = true›
            · simpa using ‹¬ undB c ((F + k : Nat) : Int) true = true›
theorem stepR_eq {c : Cir} (hv : c.valid) {k : Nat} {v : Bool} (h : fstU c = some (k, v)) : stepR c = optC (c.mapC (forceL ((c.first.toNat + k : Nat) : Int) v)) := by
  unfold stepR
  rw [h]
  exact optR_yes ((Cir.validB_iff _).2 (mapC_validU hv (by omega)))
theorem stepR_if {c : Cir} (hv : c.valid) : (stepR c).inp = c.inp ∧ (stepR c).next.length = c.next.length ∧ (stepR c).outs.length = c.outs.length := by
  cases h : fstU c with
  | none => rw [stepR_none (by rw [h]; rfl)]; exact ⟨rfl, rfl, rfl⟩
  | some kv =>
    obtain ⟨k, v⟩ := kv
    rw [stepR_eq hv h]
    obtain ⟨a1, a2, a3⟩ := optC_if (c.mapC (forceL ((c.first.toNat + k : Nat) : Int) v))
    obtain ⟨b1, b2, b3⟩ := mapC_if (forceL ((c.first.toNat + k : Nat) : Int) v) c
    exact ⟨a1.trans b1, a2.trans b2, a3.trans b3⟩
theorem stepR_valid {c : Cir} (hv : c.valid) : (stepR c).valid := by
  cases h : (fstU c).isSome with
  | false => rw [stepR_none h]; exact hv
  | true => exact (stepR_some hv h).1
theorem asgN_if {c d : Cir} (h : d.inp = c.inp ∧ d.next.length = c.next.length ∧ d.outs.length = c.outs.length) : asgN d = asgN c := by
  unfold asgN; rw [h.1, h.2.1]
theorem stepR_res {c : Cir} (hv : c.valid) {x : Nat} (hx : x < asgN c) : resV (stepR c) (x : Int) (-1) false = resV c (x : Int) (-1) false := by
  cases h : fstU c with
  | none => rw [stepR_none (by rw [h]; rfl)]
  | some kv =>
    obtain ⟨k, v⟩ := kv
    have hu := frstU_some_und h
    have hd := findN_neg (undB_neg hu) x hx
    have hp0 : (0 : Int) ≤ ((c.first.toNat + k : Nat) : Int) := by omega
    have hfp : c.first ≤ ((c.first.toNat + k : Nat) : Int) := by omega
    rw [stepR_eq hv h, optC_res (mapC_validU hv hp0)]
    have e : resV c (x : Int) (-1) false = resV c (x : Int) ((c.first.toNat + k : Nat) : Int) v := by
      unfold detV at hd
      simpa using hd
    rw [e]
    unfold resV
    have hl : litsP c.vars (c.next ++ c.outs) := fun l hl => by
      rcases List.mem_append.1 hl with h | h
      · exact hv.next l h
      · exact hv.outs l h
    have := force_map hv hfp (x : Int) (val := v) (c.next ++ c.outs) hl
    rw [← this]
    simp only [List.map_append]
    rfl
theorem stepsR_res : ∀ (n : Nat) {c : Cir}, c.valid → (∀ x : Nat, x < asgN c → resV (stepsR n c) (x : Int) (-1) false = resV c (x : Int) (-1) false) ∧ ((stepsR n c).inp = c.inp ∧ (stepsR n c).next.length = c.next.length ∧ (stepsR n c).outs.length = c.outs.length)
  | 0, _, _ => ⟨fun _ _ => rfl, rfl, rfl, rfl⟩
  | n + 1, c, hv => by
    obtain ⟨h1, h2⟩ := stepsR_res n (stepR_valid hv)
    have h3 := stepR_if hv
    unfold stepsR
    refine ⟨fun x hx => ?_, h2.1.trans h3.1, h2.2.1.trans h3.2.1, h2.2.2.trans h3.2.2⟩
    rw [h1 x (by rw [asgN_if h3]; exact hx), stepR_res hv hx]
theorem stepsR_end : ∀ (n : Nat) {c : Cir}, c.valid → c.gates.length < n → (fstU (stepsR n c)).isSome = false
  | 0, _, _, h => by omega
  | n + 1, c, hv, h => by
    cases e : (fstU c).isSome with
    | false => rw [stepsR_fix e]; exact e
    | true =>
      obtain ⟨h1, h2⟩ := stepR_some hv e
      unfold stepsR
      exact stepsR_end n h1 (by omega)
structure RemSays (c d o : Cir) : Prop where
  ok : d.validB = true
  eqv : equivB c d = true
  len : d.gates.length ≤ o.gates.length
  irr : irrB d = true
  non : fstU d = none
theorem remR_says {c : Cir} (hv : c.validB = true) : RemSays c (remR c) (optR c) := by
  have hc := c.validB_iff.1 hv
  have ho := optC_valid hc
  obtain ⟨h1, h2⟩ := stepsR_res 15 ho
  obtain ⟨h3, h4⟩ := stepsR_valid 15 ho
  have h5 := stepsR_end 15 ho (by have := ho.lim.2.2.2.1; omega)
  have h6 := optC_if c
  rw [remR_yes hv, optR_yes hv]
  have hok := (Cir.validB_iff _).2 h3
  refine ⟨hok, equivB_mk hc h3 ⟨h2.1.trans h6.1, h2.2.1.trans h6.2.1, h2.2.2.trans h6.2.2⟩ (fun x hx => ?_), h4, ?_, ?_⟩
  · rw [h1 x (by rw [asgN_if h6]; exact hx), optC_res hc]
  · unfold irrB; rw [hok, h5]; rfl
  · cases e : fstU (stepsR 15 (optC c)) with
    | none => rfl
    | some r => rw [e] at h5; cases h5
/-- No gate of an irredundant circuit has an undetectable fault. -/
theorem undR_first {d : Cir} (hok : d.validB = true) (hn : fstU d = none) : ∀ f ∈ undR d, f.1 < d.first := by
  intro f hf
  have hv := d.validB_iff.1 hok
  have h0 := hv.lim.1
  have eF : d.first = 1 + d.inp + d.next.length := rfl
  have eV : d.vars = d.first + d.gates.length := rfl
  rw [undR_yes hok (V := d.vars.toNat) (by omega)] at hf
  unfold undL at hf
  obtain ⟨h1, h2⟩ := List.mem_filter.1 hf
  have h3 := faultsL_range f (List.mem_of_mem_take h1)
  refine Classical.byContradiction fun hlt => ?_
  have h4 := frstU_none_und (show frstU d d.first.toNat d.gates.length = none from hn) (f.1 - d.first).toNat f.2 (by omega)
  rw [show ((d.first.toNat + (f.1 - d.first).toNat : Nat) : Int) = f.1 by omega] at h4
  have : undB d f.1 f.2 = undF d f := rfl
  rw [this, h2] at h4
  cases h4
theorem undR_len2 (d : Cir) : (undR d).length ≤ 1000000 := undR_len d
/-- Irredundant circuits: an undetectable fault of a gate, or none. -/
theorem undR_all {d : Cir} (hok : d.validB = true) : (undR d).all (fun f => decide (f.1 < d.first)) = irrB d := by
  have hv := d.validB_iff.1 hok
  have h0 := hv.lim.1
  have eF : d.first = 1 + d.inp + d.next.length := rfl
  have eV : d.vars = d.first + d.gates.length := rfl
  unfold irrB
  rw [hok]
  cases e : fstU d with
  | none =>
    rw [List.all_eq_true.2 (fun f hf => decide_eq_true (undR_first hok e f hf))]; rfl
  | some kv =>
    obtain ⟨k, v⟩ := kv
    have hu := frstU_some_und e
    have hk := fstU_lt e
    have hm : (((d.first.toNat + k : Nat) : Int), v) ∈ undR d := by
      rw [undR_yes hok (V := d.vars.toNat) (by omega)]
      unfold undL
      refine List.mem_filter.2 ⟨?_, hu⟩
      rw [List.take_of_length_le (by rw [faultsL_length]; omega)]
      refine List.mem_flatMap.2 ⟨d.first.toNat + k - 1, List.mem_range.2 (by omega), ?_⟩
      rw [show ((d.first.toNat + k - 1 : Nat) : Int) + 1 = ((d.first.toNat + k : Nat) : Int) by omega]
      cases v <;> simp
    have : (undR d).all (fun f => decide (f.1 < d.first)) = false := by
      rw [List.all_eq_false]
      exact ⟨_, hm, by simp; omega⟩
    rw [this]; rfl

/-! Test sets. -/
theorem tStep_keep {c : Cir} {out : List Int} {f : Int × Bool} {x : Int} (h : x ∈ out) : x ∈ tStep c out f := by
  unfold tStep
  split
  · exact h
  · split
    · exact List.mem_append_left _ h
    · exact h
theorem tStep_hit {c : Cir} {out : List Int} {f : Int × Bool} (h : ¬ findN (detV c f.1 f.2) (asgN c) < 0) : ∃ x ∈ tStep c out f, detV c f.1 f.2 x = true := by
  unfold tStep
  split
  · rename_i h1
    obtain ⟨x, hx, h2⟩ := List.any_eq_true.1 h1
    exact ⟨x, hx, h2⟩
  · rw [if_pos (by omega)]
    obtain ⟨x, _, e, h2⟩ := findN_hit h
    exact ⟨findN (detV c f.1 f.2) (asgN c), List.mem_append_right _ (by simp), by rw [e]; exact h2⟩
theorem foldl_keepT {c : Cir} {x : Int} : ∀ (fs : List (Int × Bool)) {out : List Int}, x ∈ out → x ∈ fs.foldl (tStep c) out
  | [], _, h => h
  | f :: fs, _, h => foldl_keepT fs (tStep_keep h)
theorem foldl_hitT {c : Cir} {f : Int × Bool} (h : ¬ findN (detV c f.1 f.2) (asgN c) < 0) : ∀ (fs : List (Int × Bool)) {out : List Int}, f ∈ fs → ∃ x ∈ fs.foldl (tStep c) out, detV c f.1 f.2 x = true
  | [], _, hm => by simp at hm
  | g :: fs, out, hm => by
    rcases List.mem_cons.1 hm with rfl | hm
    · obtain ⟨x, hx, h2⟩ := tStep_hit (out := out) h
      exact ⟨x, foldl_keepT fs hx, h2⟩
    · exact foldl_hitT h fs hm
/-- A test set of an irredundant circuit detects every fault of a gate. -/
theorem testR_gate {d : Cir} (hok : d.validB = true) (hn : fstU d = none) {k : Nat} (hk : k < d.gates.length) (v : Bool) : ∃ x ∈ testR d, detV d ((d.first.toNat + k : Nat) : Int) v x = true := by
  have hv := d.validB_iff.1 hok
  have h0 := hv.lim.1
  have eF : d.first = 1 + d.inp + d.next.length := rfl
  have eV : d.vars = d.first + d.gates.length := rfl
  rw [testR_yes hok (V := d.vars.toNat) (by omega)]
  unfold testL
  have hu := undB_pos (frstU_none_und (show frstU d d.first.toNat d.gates.length = none from hn) k v hk)
  refine foldl_hitT (f := (((d.first.toNat + k : Nat) : Int), v)) hu _ ?_
  rw [List.take_of_length_le (by rw [faultsL_length]; omega)]
  refine List.mem_flatMap.2 ⟨d.first.toNat + k - 1, List.mem_range.2 (by omega), ?_⟩
  rw [show ((d.first.toNat + k - 1 : Nat) : Int) + 1 = ((d.first.toNat + k : Nat) : Int) by omega]
  cases v <;> simp
theorem testR_mem {d : Cir} (hok : d.validB = true) {x : Int} (h : x ∈ testR d) : 0 ≤ x ∧ x < asgN d := by
  have hv := d.validB_iff.1 hok
  have h0 := hv.lim.1
  have eV : d.vars = 1 + d.inp + d.next.length + d.gates.length := rfl
  rw [testR_yes hok (V := d.vars.toNat) (by omega)] at h
  exact (testL_inv _ _ _).2 x h

end Go.Proofs.Ytindndcdpnpcmaa
