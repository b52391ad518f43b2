import Derived.Test.YtdcjiclonjillaaZZ63OS
import Derived.Test.YtdcjiclonjillaaZZ63RB
import Derived.Test.YtdcjiclonjillaaZZ63Q2
import Derived.Test.YtdcjiclonjillaaZZ63OL
import Derived.Test.YtdcjiclonjillaaZZ63OV
import Derived.Test.YtdcjiclonjillaaZZ63L4
import Derived.Test.YtdcjiclonjillaaZZ63H2
import Derived.Test.YtdcjiclonjillaaZZ63V6
import Derived.Test.YtdcjiclonjillaaZZ63V8
import Derived.Test.YtdcjiclonjillaaZZ63CC
import Derived.Test.YtdcjiclonjillaaZZ63OA
namespace Go.Proofs.Ytdcjiclonjillaa
set_option linter.unusedVariables false
set_option linter.unusedSimpArgs false
open Go.RowKit

/-! Part of the proof of one law. -/

theorem litB_def (vs : List Bool) (l : Int) : litB vs l = (vs.getD (l / 2).toNat false != decide (l % 2 = 1)) := rfl

theorem litB_last {vs : List Bool} {z : Bool} {l : Int} (h : (l / 2).toNat = vs.length) : litB (vs ++ [z]) l = (z != decide (l % 2 = 1)) := by
  unfold litB
  rw [h]; simp

structure FInv (F : Nat) (p : Int) (val : Bool) (k : Nat) (vs es : List Bool) : Prop where
  lv : vs.length = F + k
  le : es.length = F + k
  lit : ∀ l : Int, 0 ≤ l → l / 2 < (F : Int) + k → litB es (forceL p val l) = litB vs l
  zero : es.getD 0 false = false
  at_p : p < (F : Int) + k → vs.getD p.toNat false = val

theorem FInv.step {F : Nat} {p : Int} {val : Bool} {k : Nat} {vs es : List Bool} {g : Gt} (h : FInv F p val k vs es) (hF : 1 ≤ F) (hp : F ≤ p) (a0 : 0 ≤ g.a) (a1 : g.a / 2 < F + k) (b0 : 0 ≤ g.b) (b1 : g.b / 2 < F + k) :
    FInv F p val (k + 1) (stepV p val vs g) (stepV (-1) false es ⟨forceL p val g.a, forceL p val g.b⟩) := by
  have e1 : stepV (-1) false es ⟨forceL p val g.a, forceL p val g.b⟩ = es ++ [litB vs g.a && litB vs g.b] := by
    unfold stepV
    rw [if_neg (by omega)]
    show es ++ [litB es (forceL p val g.a) && litB es (forceL p val g.b)] = _
    rw [h.lit _ a0 a1, h.lit _ b0 b1]
  have e2 : stepV p val vs g = vs ++ [if ((F + k : Nat) : Int) = p then val else litB vs g.a && litB vs g.b] := by
    unfold stepV
    rw [h.lv]
  have lv := h.lv
  have le := h.le
  have hz : (es ++ [litB vs g.a && litB vs g.b]).getD 0 false = false := by
    have := h.zero
    cases es with
    | nil => simp at le; omega
    | cons x xs => simpa using this
  have hat : p < (F : Int) + ((k + 1 : Nat) : Int) → (vs ++ [if ((F + k : Nat) : Int) = p then val else litB vs g.a && litB vs g.b]).getD p.toNat false = val := fun hlt => by
    by_cases e : ((F + k : Nat) : Int) = p
    · rw [if_pos e]
      have : p.toNat = vs.length := by omega
      rw [this]; simp
    · have h1 := h.at_p (by omega)
      have : p.toNat < vs.length := by omega
      simp only [List.getD_eq_getElem?_getD] at h1 ⊢
      rw [List.getElem?_append_left this]; exact h1
  rw [e1, e2]
  refine ⟨by simp; omega, by simp; omega, fun l h0 hl => ?_, hz, hat⟩
  by_cases e : l / 2 = p
  · have h1 := hat (by omega)
    have e3 : litB (vs ++ [if ((F + k : Nat) : Int) = p then val else litB vs g.a && litB vs g.b]) l = (val != decide (l % 2 = 1)) := by
      rw [litB_def, e, h1]
    rw [e3]
    unfold forceL
    rw [if_pos e]
    cases val
    · have : litB (es ++ [litB vs g.a && litB vs g.b]) (l % 2) = (false != decide (l % 2 = 1)) := by
        rw [litB_def, show (l % 2 / 2).toNat = 0 by omega, hz, show l % 2 % 2 = l % 2 by omega]
      simpa using this
    · have : litB (es ++ [litB vs g.a && litB vs g.b]) (1 - l % 2) = (false != decide ((1 - l % 2) % 2 = 1)) := by
        rw [litB_def, show ((1 - l % 2) / 2).toNat = 0 by omega, hz]
      rw [if_pos rfl, this]
      rcases (show l % 2 = 0 ∨ l % 2 = 1 by omega) with e | e <;> rw [e] <;> decide
  · have e4 : forceL p val l = l := by unfold forceL; rw [if_neg e]
    rw [e4]
    by_cases hlt : l / 2 < F + k
    · rw [litB_pre (by omega), litB_pre (by omega)]
      have := h.lit l h0 hlt
      rwa [e4] at this
    · have hl2 : l / 2 = ((F + k : Nat) : Int) := by omega
      rw [litB_last (by omega), litB_last (by omega), if_neg (by omega)]

theorem force_eval {c : Cir} {p : Int} {val : Bool} (hv : c.valid) (hp : c.first ≤ p) (x : Int) {l : Int} (h0 : 0 ≤ l) (h1 : l / 2 < c.vars) :
    litB (evalV (c.mapC (forceL p val)) x (-1) false) (forceL p val l) = litB (evalV c x p val) l := by
  obtain ⟨q1, q2, q3, q4, q5⟩ := hv.lim
  obtain ⟨f1, f2, f3, f4⟩ := valid_first hv
  obtain ⟨F, hF⟩ : ∃ F : Nat, c.first = F := ⟨c.first.toNat, by omega⟩
  have eF : c.first = 1 + c.inp + c.next.length := rfl
  have hla := asgV_length c x
  have key : ∀ k, k ≤ c.gates.length → FInv F p val k (valsV p val (asgV c x) (c.gates.take k)) (valsV (-1) false (asgV c x) (mapG (forceL p val) (c.gates.take k))) := by
    intro k
    induction k with
    | zero =>
      intro _
      refine ⟨by simp [valsV]; omega, by simp [valsV, mapG]; omega, fun l h0 hl => ?_, rfl, fun h => by omega⟩
      have : forceL p val l = l := by unfold forceL; rw [if_neg (by omega)]
      rw [this]; rfl
    | succ k ih =>
      intro hk
      obtain ⟨g, hg⟩ := get_of_lt (l := c.gates) (k := k) (by omega)
      obtain ⟨⟨a0, a2⟩, b0, b2⟩ := valid_gate hv hg
      rw [valsV_snoc hg, mapG_snoc hg, valsV_append]
      exact (ih (by omega)).step (by omega) (by omega) a0 (by omega) b0 (by omega)
  have h := (key c.gates.length (Nat.le_refl _)).lit l h0 (by omega)
  rw [List.take_length] at h
  have e1 : stuckB p val (asgV c x) = asgV c x := by
    unfold stuckB
    rw [if_pos (by omega), List.set_eq_of_length_le (by omega)]
  have e2 : evalV c x p val = valsV p val (asgV c x) c.gates := by unfold evalV; rw [e1]
  have e3 : evalV (c.mapC (forceL p val)) x (-1) false = valsV (-1) false (asgV c x) (mapG (forceL p val) c.gates) := by
    rw [evalV_no]
    have : asgV (c.mapC (forceL p val)) x = asgV c x := by simp [asgV, Cir.mapC]
    rw [this]; rfl
  rw [e2, e3]; exact h

theorem force_map {c : Cir} {p : Int} {val : Bool} (hv : c.valid) (hp : c.first ≤ p) (x : Int) (ls : List Int) (hl : litsP c.vars ls) :
    (ls.map (forceL p val)).map (litB (evalV (c.mapC (forceL p val)) x (-1) false)) = ls.map (litB (evalV c x p val)) := by
  rw [List.map_map]
  refine List.map_congr_left fun l hll => ?_
  obtain ⟨h0, h1⟩ := hl l hll
  exact force_eval hv hp x h0 (by omega)

theorem Lv_all {c : Cir} (hv : c.valid) (x : Int) : ∀ i, i < c.gates.length → (Lv c i).all (litB (evalV c x (-1) false)) = litB (evalV c x (-1) false) (2 * (c.first + i)) := by
  intro i
  induction i using Nat.strongRecOn with
  | ind i ih =>
    intro hi
    obtain ⟨g, hg⟩ := get_of_lt hi
    obtain ⟨⟨a0, a2⟩, b0, b2⟩ := valid_gate hv hg
    rw [evalV_gate hv x hg, Lv_eq hv hg, List.all_append]
    have key : ∀ l, 0 ≤ l → l / 2 < c.first + i → (lvP c l).all (litB (evalV c x (-1) false)) = litB (evalV c x (-1) false) l := fun l h0 hl => by
      unfold lvP
      by_cases h : oneP c l
      · rw [if_pos h]
        have hj := oneP_lt h hl
        obtain ⟨h1, h2, _⟩ := h
        rw [ih _ hj (by omega)]
        congr 1; omega
      · rw [if_neg h]; simp
    rw [key g.a a0 a2, key g.b b0 b2]

theorem Lv_two {c : Cir} (hv : c.valid) : ∀ i, i < c.gates.length → 2 ≤ (Lv c i).length := by
  intro i
  induction i using Nat.strongRecOn with
  | ind i ih =>
    intro hi
    obtain ⟨g, hg⟩ := get_of_lt hi
    obtain ⟨⟨a0, a2⟩, b0, b2⟩ := valid_gate hv hg
    rw [Lv_eq hv hg, List.length_append]
    have key : ∀ l, 0 ≤ l → l / 2 < c.first + i → 1 ≤ (lvP c l).length := fun l h0 hl => by
      unfold lvP
      by_cases h : oneP c l
      · rw [if_pos h]
        have hj := oneP_lt h hl
        have := ih _ hj (by omega); omega
      · rw [if_neg h]; simp
    have h1 := key g.a a0 a2
    have h2 := key g.b b0 b2
    omega

theorem Lv_mem {c : Cir} (hv : c.valid) : ∀ i, i < c.gates.length → ∀ l ∈ Lv c i, 0 ≤ l ∧ l / 2 < c.first + i := by
  intro i
  induction i using Nat.strongRecOn with
  | ind i ih =>
    intro hi l hl
    obtain ⟨g, hg⟩ := get_of_lt hi
    obtain ⟨⟨a0, a2⟩, b0, b2⟩ := valid_gate hv hg
    rw [Lv_eq hv hg, List.mem_append] at hl
    have key : ∀ m, 0 ≤ m → m / 2 < c.first + i → l ∈ lvP c m → 0 ≤ l ∧ l / 2 < c.first + i := fun m h0 hm hlm => by
      unfold lvP at hlm
      by_cases h : oneP c m
      · rw [if_pos h] at hlm
        have hj := oneP_lt h hm
        have := ih _ hj (by omega) l hlm; omega
      · rw [if_neg h] at hlm
        simp at hlm; subst hlm; exact ⟨h0, hm⟩
    rcases hl with hl | hl
    · exact key _ a0 a2 hl
    · exact key _ b0 b2 hl

theorem findN_neg {p : Int → Bool} {N : Nat} (h : findN p N < 0) (x : Nat) (hx : x < N) : p (x : Int) = false := by
  unfold findN at h
  cases e : (List.range N).find? (fun (x : Nat) => p (x : Int)) with
  | none => simpa using List.find?_eq_none.1 e x (List.mem_range.2 hx)
  | some y => rw [e] at h; simp at h; omega

theorem frstU_some_und {c : Cir} {F : Nat} : ∀ {n : Nat} {k : Nat} {v : Bool}, frstU c F n = some (k, v) → undB c ((F + k : Nat) : Int) v = true
  | 0, _, _, h => by cases h
  | n + 1, k, v, h => by
    have h' : (match frstU c F n with | some r => some r | none => if undB c ((F + n : Nat) : Int) false then some (n, false) else if undB c ((F + n : Nat) : Int) true then some (n, true) else none) = some (k, v) := h
    cases e : frstU c F n with
    | some r => rw [e] at h'; simp at h'; subst h'; exact frstU_some_und e
    | none =>
      rw [e] at h'
      simp only at h'
      split at h'
      · simp at h'; obtain ⟨rfl, rfl⟩ := h'; assumption
      · split at h'
        · simp at h'; obtain ⟨rfl, rfl⟩ := h'; assumption
        · cases h'

theorem stepR_eq {c : Cir} (hv : c.valid) {k : Nat} {v : Bool} (h : fstU c = some (k, v)) : stepR c = optC (c.mapC (forceL ((c.first.toNat + k : Nat) : Int) v)) := by
  unfold stepR
  rw [h]
  exact optR_yes ((Cir.validB_iff _).2 (mapC_validU hv (by omega)))

theorem stepR_if {c : Cir} (hv : c.valid) : (stepR c).inp = c.inp ∧ (stepR c).next.length = c.next.length ∧ (stepR c).outs.length = c.outs.length := by
  cases h : fstU c with
  | none => rw [stepR_none (by rw [h]; rfl)]; exact ⟨rfl, rfl, rfl⟩
  | some kv =>
    obtain ⟨k, v⟩ := kv
    rw [stepR_eq hv h]
    obtain ⟨a1, a2, a3⟩ := optC_if (c.mapC (forceL ((c.first.toNat + k : Nat) : Int) v))
    obtain ⟨b1, b2, b3⟩ := mapC_if (forceL ((c.first.toNat + k : Nat) : Int) v) c
    exact ⟨a1.trans b1, a2.trans b2, a3.trans b3⟩

theorem stepR_valid {c : Cir} (hv : c.valid) : (stepR c).valid := by
  cases h : (fstU c).isSome with
  | false => rw [stepR_none h]; exact hv
  | true => exact (stepR_some hv h).1

theorem asgN_if {c d : Cir} (h : d.inp = c.inp ∧ d.next.length = c.next.length ∧ d.outs.length = c.outs.length) : asgN d = asgN c := by
  unfold asgN; rw [h.1, h.2.1]

theorem stepR_res {c : Cir} (hv : c.valid) {x : Nat} (hx : x < asgN c) : resV (stepR c) (x : Int) (-1) false = resV c (x : Int) (-1) false := by
  cases h : fstU c with
  | none => rw [stepR_none (by rw [h]; rfl)]
  | some kv =>
    obtain ⟨k, v⟩ := kv
    have hu := frstU_some_und h
    have hd := findN_neg (undB_neg hu) x hx
    have hp0 : (0 : Int) ≤ ((c.first.toNat + k : Nat) : Int) := by omega
    have hfp : c.first ≤ ((c.first.toNat + k : Nat) : Int) := by omega
    rw [stepR_eq hv h, optC_res (Cir.valid.wide (mapC_validU hv hp0))]
    have e : resV c (x : Int) (-1) false = resV c (x : Int) ((c.first.toNat + k : Nat) : Int) v := by
      unfold detV at hd
      simpa using hd
    rw [e]
    unfold resV
    have hl : litsP c.vars (c.next ++ c.outs) := fun l hl => by
      rcases List.mem_append.1 hl with h | h
      · exact hv.next l h
      · exact hv.outs l h
    have := force_map hv hfp (x : Int) (val := v) (c.next ++ c.outs) hl
    rw [← this]
    simp only [List.map_append]
    rfl

theorem stepsR_res : ∀ (n : Nat) {c : Cir}, c.valid → (∀ x : Nat, x < asgN c → resV (stepsR n c) (x : Int) (-1) false = resV c (x : Int) (-1) false) ∧ ((stepsR n c).inp = c.inp ∧ (stepsR n c).next.length = c.next.length ∧ (stepsR n c).outs.length = c.outs.length)
  | 0, _, _ => ⟨fun _ _ => rfl, rfl, rfl, rfl⟩
  | n + 1, c, hv => by
    obtain ⟨h1, h2⟩ := stepsR_res n (stepR_valid hv)
    have h3 := stepR_if hv
    unfold stepsR
    refine ⟨fun x hx => ?_, h2.1.trans h3.1, h2.2.1.trans h3.2.1, h2.2.2.trans h3.2.2⟩
    rw [h1 x (by rw [asgN_if h3]; exact hx), stepR_res hv hx]

theorem stepsR_end : ∀ (n : Nat) {c : Cir}, c.valid → c.gates.length < n → (fstU (stepsR n c)).isSome = false
  | 0, _, _, h => by omega
  | n + 1, c, hv, h => by
    cases e : (fstU c).isSome with
    | false => rw [stepsR_fix e]; exact e
    | true =>
      obtain ⟨h1, h2⟩ := stepR_some hv e
      unfold stepsR
      exact stepsR_end n h1 (by omega)

structure RemSays (c d o : Cir) : Prop where
  ok : d.validB = true
  eqv : equivB c d = true
  len : d.gates.length ≤ o.gates.length
  irr : irrB d = true
  non : fstU d = none

theorem remR_says {c : Cir} (hv : c.validB = true) : RemSays c (remR c) (optR c) := by
  have hc := c.validB_iff.1 hv
  have ho := optC_valid hc
  obtain ⟨h1, h2⟩ := stepsR_res 15 ho
  obtain ⟨h3, h4⟩ := stepsR_valid 15 ho
  have h5 := stepsR_end 15 ho (by have := ho.lim.2.2.2.1; omega)
  have h6 := optC_if c
  rw [remR_yes hv, optR_yes hv]
  have hok := (Cir.validB_iff _).2 h3
  refine ⟨hok, equivB_mk hc h3 ⟨h2.1.trans h6.1, h2.2.1.trans h6.2.1, h2.2.2.trans h6.2.2⟩ (fun x hx => ?_), h4, ?_, ?_⟩
  · rw [h1 x (by rw [asgN_if h6]; exact hx), optC_res hc]
  · unfold irrB; rw [hok, h5]; rfl
  · cases e : fstU (stepsR 15 (optC c)) with
    | none => rfl
    | some r => rw [e] at h5; cases h5

/-- A leaf's weight: what its variable's own leaves are, but one. -/
def wtL (c : Cir) (k : Nat) (x : Int) : Nat := if c.first ≤ x / 2 ∧ x / 2 < c.first + k ∧ cntL c.usesI (x / 2) = 1 then (Lv c (x / 2 - c.first).toNat).length - 1 else 0

def occL (c : Cir) (k : Nat) : List Int := glits (c.gates.drop k) ++ (c.next ++ c.outs)

def phiL (c : Cir) (k : Nat) : Nat := ((occL c k).map (wtL c k)).sum

theorem occL_step {c : Cir} {k : Nat} {g : Gt} (h : c.gates[k]? = some g) : occL c k = g.a :: g.b :: occL c (k + 1) := by
  have hk := (List.getElem?_eq_some_iff.1 h).1
  have e : c.gates.drop k = g :: c.gates.drop (k + 1) := by
    rw [List.drop_eq_getElem_cons hk, (List.getElem?_eq_some_iff.1 h).2]
  unfold occL
  rw [e]
  simp [glits]

theorem glits_append (A B : List Gt) : glits (A ++ B) = glits A ++ glits B := by simp [glits]

theorem occL_cnt (c : Cir) (k : Nat) (v : Int) : cntL (occL c k) v ≤ cntL c.usesI v := by
  unfold occL Cir.usesI
  have e : glits c.gates = glits (c.gates.take k) ++ glits (c.gates.drop k) := by rw [← glits_append, List.take_append_drop]
  rw [e]
  simp only [cntL_append]
  omega

theorem sum_bump (f g : Int → Nat) (v : Int) (t : Nat) : ∀ (L : List Int), (∀ x ∈ L, f x ≤ g x + (if x / 2 = v then t else 0)) → (L.map f).sum ≤ (L.map g).sum + cntL L v * t
  | [], _ => by simp
  | x :: L, h => by
    have ih := sum_bump f g v t L fun y hy => h y (by simp [hy])
    have hx := h x (by simp)
    have hc : cntL (x :: L) v = (if x / 2 = v then 1 else 0) + cntL L v := by
      rw [show x :: L = [x] ++ L from rfl, cntL_append, cntL_one]
    rw [hc, Nat.add_mul]
    simp only [List.map_cons, List.sum_cons]
    split at hx
    · next e => rw [if_pos e]; omega
    · next e => rw [if_neg e]; omega

theorem lvP_wt {c : Cir} {l : Int} {k : Nat} (hl : l / 2 < c.first + k) : (lvP c l).length ≤ 1 + wtL c k l := by
  unfold lvP wtL
  by_cases h : oneP c l
  · rw [if_pos h, if_pos ⟨h.2.1, hl, h.2.2⟩]; omega
  · rw [if_neg h]; simp

theorem phiL_le {c : Cir} (hv : c.valid) : ∀ k, k ≤ c.gates.length → phiL c k ≤ k
  | 0, _ => by
    have : ∀ L : List Int, (L.map (wtL c 0)).sum = 0 := by
      intro L
      induction L with
      | nil => rfl
      | cons x L ih =>
        simp only [List.map_cons, List.sum_cons, ih]
        unfold wtL
        rw [if_neg (by omega)]
    unfold phiL; rw [this]; exact Nat.le_refl _
  | k + 1, hk => by
    have ih := phiL_le hv k (by omega)
    obtain ⟨g, hg⟩ := get_of_lt (show k < c.gates.length by omega)
    obtain ⟨⟨a0, a1⟩, b0, b1⟩ := valid_gate hv hg
    unfold phiL at ih
    rw [occL_step hg] at ih
    simp only [List.map_cons, List.sum_cons] at ih
    have hlen : (Lv c k).length ≤ 2 + wtL c k g.a + wtL c k g.b := by
      rw [Lv_eq hv hg, List.length_append]
      have h1 := lvP_wt a1
      have h2 := lvP_wt b1
      omega
    have hc := occL_cnt c (k + 1) (c.first + k)
    by_cases hu : cntL c.usesI (c.first + k) = 1
    · have hb := sum_bump (wtL c (k + 1)) (wtL c k) (c.first + k) ((Lv c k).length - 1) (occL c (k + 1)) (fun x _ => by
        unfold wtL
        by_cases e : x / 2 = c.first + k
        · rw [if_pos e, e, if_pos ⟨by omega, by omega, hu⟩]
          rw [show (c.first + (k : Int) - c.first).toNat = k by omega]
          omega
        · rw [if_neg e]
          by_cases h1 : c.first ≤ x / 2 ∧ x / 2 < c.first + ((k + 1 : Nat) : Int) ∧ cntL c.usesI (x / 2) = 1
          · rw [if_pos h1, if_pos ⟨h1.1, by have := h1.2.1; omega, h1.2.2⟩]; omega
          · rw [if_neg h1]; omega)
      unfold phiL
      have hm : cntL (occL c (k + 1)) (c.first + k) * ((Lv c k).length - 1) ≤ (Lv c k).length - 1 := by
        rw [hu] at hc
        exact Nat.le_trans (Nat.mul_le_mul_right _ hc) (by rw [Nat.one_mul]; exact Nat.le_refl _)
      omega
    · have hb := sum_bump (wtL c (k + 1)) (wtL c k) (c.first + k) 0 (occL c (k + 1)) (fun x _ => by
        unfold wtL
        by_cases e : x / 2 = c.first + k
        · rw [if_neg (fun h => hu (by rw [← e]; exact h.2.2))]; omega
        · by_cases h1 : c.first ≤ x / 2 ∧ x / 2 < c.first + ((k + 1 : Nat) : Int) ∧ cntL c.usesI (x / 2) = 1
          · rw [if_pos h1, if_pos ⟨h1.1, by have := h1.2.1; omega, h1.2.2⟩]; omega
          · rw [if_neg h1]; omega)
      unfold phiL
      rw [Nat.mul_zero] at hb
      omega

theorem Lv_small {c : Cir} (hv : c.valid) {k : Nat} (hk : k < c.gates.length) : (Lv c k).length ≤ k + 2 := by
  obtain ⟨g, hg⟩ := get_of_lt hk
  obtain ⟨⟨a0, a1⟩, b0, b1⟩ := valid_gate hv hg
  have ih := phiL_le hv k (by omega)
  unfold phiL at ih
  rw [occL_step hg] at ih
  simp only [List.map_cons, List.sum_cons] at ih
  have h1 := lvP_wt a1
  have h2 := lvP_wt b1
  rw [Lv_eq hv hg, List.length_append]
  omega

/-! The pick of the literal with the lowest level. -/

def lvA (L : List Int) (l : Int) : Int := L.getD (l / 2).toNat 0

structure IsBest (L xs : List Int) (k i : Nat) : Prop where
  lt : i < k
  lo : ∀ j, j < i → lvA L (xs.getD i 0) < lvA L (xs.getD j 0)
  hi : ∀ j, i < j → j < k → lvA L (xs.getD i 0) ≤ lvA L (xs.getD j 0)

def bestK (L xs : List Int) : Nat → Nat
  | 0 => 0
  | k + 1 => if lvA L (xs.getD k 0) < lvA L (xs.getD (bestK L xs k) 0) then k else bestK L xs k

theorem bestK_best (L xs : List Int) : ∀ k, IsBest L xs (k + 1) (bestK L xs (k + 1))
  | 0 => by
    have : bestK L xs 1 = 0 := by simp [bestK]
    rw [this]
    exact ⟨by omega, fun j h => absurd h (by omega), fun j h1 h2 => absurd h2 (by omega)⟩
  | k + 1 => by
    have ih := bestK_best L xs k
    show IsBest L xs (k + 2) (if lvA L (xs.getD (k + 1) 0) < lvA L (xs.getD (bestK L xs (k + 1)) 0) then k + 1 else bestK L xs (k + 1))
    generalize bestK L xs (k + 1) = b at ih
    split
    · next h =>
      refine ⟨by omega, fun j hj => ?_, fun j h1 h2 => absurd h2 (by omega)⟩
      rcases Nat.lt_trichotomy j b with e | e | e
      · have := ih.lo j e; omega
      · subst e; exact h
      · have := ih.hi j e (by omega); omega
    · next h =>
      refine ⟨by have := ih.lt; omega, ih.lo, fun j h1 h2 => ?_⟩
      by_cases e : j = k + 1
      · subst e; omega
      · exact ih.hi j h1 (by omega)

/-! The join of a list of literals. -/

def pkI (L xs : List Int) : Nat := bestK L xs xs.length

def pkX (L xs : List Int) : Int := xs.getD (pkI L xs) 0

def pkR (L xs : List Int) : List Int := xs.eraseIdx (pkI L xs)

theorem pkI_best {L xs : List Int} (h : 0 < xs.length) : IsBest L xs xs.length (pkI L xs) := by
  obtain ⟨n, hn⟩ : ∃ n, xs.length = n + 1 := ⟨xs.length - 1, by omega⟩
  unfold pkI; rw [hn]; exact bestK_best L xs n

theorem pkI_lt {L xs : List Int} (h : 0 < xs.length) : pkI L xs < xs.length := (pkI_best h).lt

theorem pkX_mem {L xs : List Int} (h : 0 < xs.length) : pkX L xs ∈ xs := by
  unfold pkX
  rw [List.getD_eq_getElem?_getD, List.getElem?_eq_getElem (pkI_lt h)]
  exact List.getElem_mem _

theorem pkR_len {L xs : List Int} (h : 0 < xs.length) : (pkR L xs).length = xs.length - 1 := by
  unfold pkR; rw [List.length_eraseIdx, if_pos (pkI_lt h)]

theorem pkR_mem {L xs : List Int} {x : Int} (h : x ∈ pkR L xs) : x ∈ xs := List.mem_of_mem_eraseIdx h

theorem all_erase (p : Int → Bool) : ∀ (xs : List Int) (i : Nat), i < xs.length → xs.all p = (p (xs.getD i 0) && (xs.eraseIdx i).all p)
  | [], _, h => by simp at h
  | x :: xs, 0, _ => by simp
  | x :: xs, i + 1, h => by
    have := all_erase p xs i (by simpa using h)
    simp only [List.all_cons, List.eraseIdx_cons_succ, this, List.getD_cons_succ]
    rw [← Bool.and_assoc, Bool.and_comm (p x), Bool.and_assoc]

theorem pk_all {L xs : List Int} (h : 0 < xs.length) (p : Int → Bool) : xs.all p = (p (pkX L xs) && (pkR L xs).all p) := all_erase p xs _ (pkI_lt h)

def joinS (F : Nat) (gs : List Gt) (xs : List Int) : List Gt × Int := andL F gs (pkX (lvlL F gs) xs) (pkX (lvlL F gs) (pkR (lvlL F gs) xs))

def joinX (F : Nat) (gs : List Gt) (xs : List Int) : List Int := pkR (lvlL F gs) (pkR (lvlL F gs) xs) ++ [(joinS F gs xs).2]

def joinL (F : Nat) : Nat → List Gt → List Int → List Gt × Int
  | 0, gs, xs => (gs, xs.getD 0 0)
  | f + 1, gs, xs => if xs.length ≤ 1 then (gs, xs.getD 0 0) else joinL F f (joinS F gs xs).1 (joinX F gs xs)

theorem joinX_len {F : Nat} {gs : List Gt} {xs : List Int} (h : 1 < xs.length) : (joinX F gs xs).length = xs.length - 1 := by
  unfold joinX
  rw [List.length_append, pkR_len (by rw [pkR_len (by omega)]; omega), pkR_len (by omega)]
  simp; omega

theorem joinL_end {F f : Nat} {gs : List Gt} {xs : List Int} (h : xs.length ≤ 1) : joinL F f gs xs = (gs, xs.getD 0 0) := by
  cases f with
  | zero => rfl
  | succ f => unfold joinL; rw [if_pos h]

theorem joinL_step {F f : Nat} {gs : List Gt} {xs : List Int} (h : 1 < xs.length) : joinL F (f + 1) gs xs = joinL F f (joinS F gs xs).1 (joinX F gs xs) := by
  show (if xs.length ≤ 1 then _ else _) = _
  rw [if_neg (by omega)]

theorem litP_mono {l v v' : Int} (h : litP l v) (hv : v ≤ v') : litP l v' := by unfold litP at *; omega

structure JnOk (F : Nat) (gs : List Gt) (n : Nat) (r : List Gt × Int) : Prop where
  gates : gatesP F r.1
  lit : litP r.2 (F + r.1.length)
  len : gs.length ≤ r.1.length ∧ r.1.length ≤ gs.length + (n - 1)
  ext : ∃ hs, r.1 = gs ++ hs

theorem joinS_ok {F : Nat} {gs : List Gt} {xs : List Int} (hF : 1 ≤ F) (hg : gatesP F gs) (hx : ∀ l ∈ xs, litP l (F + gs.length)) (h : 1 < xs.length) : AndOk F gs (joinS F gs xs) :=
  andL_ok (by omega) hg (hx _ (pkX_mem (by omega))) (hx _ (pkR_mem (pkX_mem (by rw [pkR_len (by omega)]; omega))))

theorem joinX_lit {F : Nat} {gs : List Gt} {xs : List Int} (hF : 1 ≤ F) (hg : gatesP F gs) (hx : ∀ l ∈ xs, litP l (F + gs.length)) (h : 1 < xs.length) : ∀ l ∈ joinX F gs xs, litP l (F + (joinS F gs xs).1.length) := fun l hl => by
  have hok := joinS_ok hF hg hx h
  rcases List.mem_append.1 hl with h1 | h1
  · exact litP_mono (hx l (pkR_mem (pkR_mem h1))) (by have := hok.len.1; omega)
  · simp at h1; rw [h1]; exact hok.lit

theorem joinL_ok {F : Nat} (hF : 1 ≤ F) : ∀ (f : Nat) {gs : List Gt} {xs : List Int}, gatesP F gs → (∀ l ∈ xs, litP l (F + gs.length)) → 1 ≤ xs.length → xs.length ≤ f + 1 → JnOk F gs xs.length (joinL F f gs xs)
  | f, gs, xs, hg, hx, h1, h2 => by
    by_cases h : xs.length ≤ 1
    · rw [joinL_end h]
      obtain ⟨x, hx0⟩ := get_of_lt (show 0 < xs.length by omega)
      refine ⟨hg, ?_, by simp, [], by simp⟩
      show litP (xs.getD 0 0) _
      rw [List.getD_eq_getElem?_getD, hx0]
      exact hx x (List.mem_of_getElem? hx0)
    · cases f with
      | zero => omega
      | succ f =>
        rw [joinL_step (by omega)]
        have hok := joinS_ok hF hg hx (by omega)
        have hl := joinX_len (F := F) (gs := gs) (xs := xs) (by omega)
        have ih := joinL_ok hF f hok.gates (joinX_lit hF hg hx (by omega)) (by omega) (by omega)
        obtain ⟨hs, e⟩ := ih.ext
        refine ⟨ih.gates, ih.lit, by have := ih.len; have := hok.len; omega, ?_⟩
        rcases andL_ext F gs (pkX (lvlL F gs) xs) (pkX (lvlL F gs) (pkR (lvlL F gs) xs)) with h3 | ⟨g, h3, _⟩
        · exact ⟨hs, by rw [e]; unfold joinS; rw [h3]⟩
        · exact ⟨[g] ++ hs, by rw [e]; unfold joinS; rw [h3]; simp⟩

theorem joinL_val {F : Nat} (hF : 1 ≤ F) {b : List Bool} (hb : Bs F b) : ∀ (f : Nat) {gs : List Gt} {xs : List Int}, gatesP F gs → (∀ l ∈ xs, litP l (F + gs.length)) → 1 ≤ xs.length → xs.length ≤ f + 1 →
    litB (vN b (joinL F f gs xs).1) (joinL F f gs xs).2 = xs.all (litB (vN b gs))
  | f, gs, xs, hg, hx, h1, h2 => by
    by_cases h : xs.length ≤ 1
    · rw [joinL_end h]
      obtain ⟨x, rfl⟩ : ∃ x, xs = [x] := by
        cases xs with
        | nil => simp at h1
        | cons x t => cases t with
          | nil => exact ⟨x, rfl⟩
          | cons y t => simp at h
      simp
    · cases f with
      | zero => omega
      | succ f =>
        rw [joinL_step (by omega)]
        have hok := joinS_ok hF hg hx (by omega)
        have hl := joinX_len (F := F) (gs := gs) (xs := xs) (by omega)
        rw [joinL_val hF hb f hok.gates (joinX_lit hF hg hx (by omega)) (by omega) (by omega)]
        have hp1 : 0 < (pkR (lvlL F gs) xs).length := by rw [pkR_len (by omega)]; omega
        have hv := andL_val hb hg (hx _ (pkX_mem (L := lvlL F gs) (by omega))) (hx _ (pkR_mem (pkX_mem (L := lvlL F gs) hp1)))
        rw [pk_all (L := lvlL F gs) (show 0 < xs.length by omega), pk_all (L := lvlL F gs) hp1]
        unfold joinX
        rw [List.all_append]
        have hsame : (pkR (lvlL F gs) (pkR (lvlL F gs) xs)).all (litB (vN b (joinS F gs xs).1)) = (pkR (lvlL F gs) (pkR (lvlL F gs) xs)).all (litB (vN b gs)) := by
          apply Bool.eq_iff_iff.2
          rw [List.all_eq_true, List.all_eq_true]
          have key : ∀ l ∈ pkR (lvlL F gs) (pkR (lvlL F gs) xs), litB (vN b (joinS F gs xs).1) l = litB (vN b gs) l := fun l hl => by
            rcases andL_ext F gs (pkX (lvlL F gs) xs) (pkX (lvlL F gs) (pkR (lvlL F gs) xs)) with h3 | ⟨g, h3, _⟩
            · unfold joinS; rw [h3]
            · unfold joinS; rw [h3]; exact litB_app hb.len (hx l (pkR_mem (pkR_mem hl)))
          exact ⟨fun h l hl => by rw [← key l hl]; exact h l hl, fun h l hl => by rw [key l hl]; exact h l hl⟩
        rw [hsame]
        simp only [List.all_cons, List.all_nil, Bool.and_true]
        rw [show litB (vN b (joinS F gs xs).1) (joinS F gs xs).2 = _ from hv]
        rw [Bool.and_comm, Bool.and_assoc]

/-! The circuit rebuilt. -/

def balS (c : Cir) (st : List Gt × List Int) (k : Nat) : List Gt × Int := joinL c.first.toNat (Lv c k).length st.1 ((Lv c k).map (mapB st.2))

def balP (c : Cir) : Nat → List Gt × List Int
  | 0 => ([], evE c.first.toNat)
  | k + 1 => ((balS c (balP c k) k).1, (balP c k).2 ++ [(balS c (balP c k) k).2])

structure BalOk (c : Cir) (k : Nat) (st : List Gt × List Int) : Prop where
  gates : gatesP c.first.toNat st.1
  lits : ∀ x ∈ st.2, litP x (c.first.toNat + st.1.length)
  mlen : st.2.length = c.first.toNat + k
  glen : 2 * st.1.length ≤ k * (k + 1)

theorem balL_lit {c : Cir} (hv : c.valid) {k : Nat} {st : List Gt × List Int} (h : BalOk c k st) (hk : k < c.gates.length) : ∀ l ∈ (Lv c k).map (mapB st.2), litP l (c.first.toNat + st.1.length) := fun l hl => by
  obtain ⟨x, hx, rfl⟩ := List.mem_map.1 hl
  obtain ⟨h0, h1⟩ := Lv_mem hv k hk x hx
  have hf := (valid_first hv).1
  exact mapB_litP h.lits h0 (by rw [h.mlen]; omega)

theorem balS_ok {c : Cir} (hv : c.valid) {k : Nat} {st : List Gt × List Int} (h : BalOk c k st) (hk : k < c.gates.length) : JnOk c.first.toNat st.1 (Lv c k).length (balS c st k) := by
  have hf := (valid_first hv).1
  have h2 := Lv_two hv k hk
  have := joinL_ok (F := c.first.toNat) (by omega) (Lv c k).length h.gates (balL_lit hv h hk) (by simp; omega) (by simp)
  rw [List.length_map] at this
  exact this

theorem balP_ok {c : Cir} (hv : c.valid) : ∀ k, k ≤ c.gates.length → BalOk c k (balP c k)
  | 0, _ => by
    have hf := (valid_first hv).1
    refine ⟨fun i hi => by simp [balP] at hi, fun x hx => ?_, by simp [balP, evE_length], by simp [balP]⟩
    obtain ⟨i, hi, rfl⟩ := List.mem_map.1 hx
    have := List.mem_range.1 hi
    unfold litP; simp [balP]; omega
  | k + 1, hk => by
    have ih := balP_ok hv k (by omega)
    have hs := balS_ok hv ih (by omega)
    have hl := Lv_small hv (k := k) (by omega)
    have he : (k + 1) * (k + 1 + 1) = k * (k + 1) + 2 * (k + 1) := by rw [Nat.mul_comm (k + 1) (k + 1 + 1), ← Nat.add_mul]
    refine ⟨hs.gates, fun x hx => ?_, by show ((balP c k).2 ++ [_]).length = _; rw [List.length_append, ih.mlen]; simp; omega, ?_⟩
    · rcases List.mem_append.1 hx with h | h
      · exact litP_mono (ih.lits x h) (by have := hs.len.1; show _ ≤ ((c.first.toNat : Nat) : Int) + ((balS c (balP c k) k).1.length : Int); omega)
      · simp at h; rw [h]; exact hs.lit
    · show 2 * (balS c (balP c k) k).1.length ≤ _
      have h1 := hs.len.2
      have h2 := ih.glen
      omega

def balC (c : Cir) : Cir := ⟨c.inp, c.next.map (mapB (balP c c.gates.length).2), (balP c c.gates.length).1, c.outs.map (mapB (balP c c.gates.length).2)⟩

theorem balP_small {c : Cir} (hv : c.valid) {k : Nat} (hk : k ≤ c.gates.length) : (balP c k).1.length ≤ 105 := by
  have h1 := (balP_ok hv k hk).glen
  have h2 := hv.lim.2.2.2.1
  have h3 : k * (k + 1) ≤ 14 * 15 := Nat.mul_le_mul (by omega) (by omega)
  omega

theorem balC_wide {c : Cir} (hv : c.valid) : (balC c).wide := by
  have hf := (valid_first hv).1
  have hok := balP_ok hv c.gates.length (Nat.le_refl _)
  have hs := balP_small hv (Nat.le_refl c.gates.length)
  have hF : (balC c).first = (c.first.toNat : Int) := by show 1 + c.inp + ((c.next.map _).length : Int) = _; rw [List.length_map]; unfold Cir.first at hf ⊢; omega
  have hV : (balC c).vars = (c.first.toNat : Int) + ((balP c c.gates.length).1.length : Int) := by
    show 1 + c.inp + ((c.next.map _).length : Int) + _ = _
    rw [List.length_map]; unfold Cir.first at hf ⊢; show 1 + c.inp + (c.next.length : Int) + ((balP c c.gates.length).1.length : Int) = _; omega
  have key : ∀ l, litP l c.vars → litP (mapB (balP c c.gates.length).2 l) (balC c).vars := fun l hl => by
    rw [hV]
    have eV : c.vars = c.first + c.gates.length := rfl
    unfold litP at hl
    exact mapB_litP hok.lits (by omega) (by rw [hok.mlen]; omega)
  refine ⟨⟨hv.lim.1, hv.lim.2.1, by show (c.next.map _).length ≤ 3; rw [List.length_map]; exact hv.lim.2.2.1, by show (balP c c.gates.length).1.length ≤ 120; omega, by show (c.outs.map _).length ≤ 3; rw [List.length_map]; exact hv.lim.2.2.2.2⟩, by rw [hF]; exact hok.gates, fun l hl => ?_, fun l hl => ?_⟩
  · obtain ⟨x, hx, rfl⟩ := List.mem_map.1 hl; exact key x (hv.next x hx)
  · obtain ⟨x, hx, rfl⟩ := List.mem_map.1 hl; exact key x (hv.outs x hx)

theorem balP_val {c : Cir} (hv : c.valid) (x : Int) : ∀ k, k ≤ c.gates.length → ∀ v, v < c.first.toNat + k → litB (vN (asgV c x) (balP c k).1) ((balP c k).2.getD v 0) = (vN (asgV c x) c.gates).getD v false
  | 0, _, v, hlt => by
    have hb := asgV_Bs (Cir.valid.wide hv) x
    show litB (vN (asgV c x) []) ((evE c.first.toNat).getD v 0) = _
    rw [evE_getD (by omega), litB_nat]
    have := getD_app (b := asgV c x) (gs := []) (hs := c.gates) (v := v) (by rw [hb.len]; simp; omega)
    rw [List.nil_append] at this
    exact this.symm
  | k + 1, hk, v, hlt => by
    have hb := asgV_Bs (Cir.valid.wide hv) x
    have hf := (valid_first hv).1
    have ih := balP_val hv x k (by omega)
    have hok := balP_ok hv k (by omega)
    have hs := balS_ok hv hok (by omega)
    obtain ⟨hs2, he⟩ := hs.ext
    by_cases e : v < c.first.toNat + k
    · show litB (vN _ (balS c (balP c k) k).1) (((balP c k).2 ++ [_]).getD v 0) = _
      rw [getD_snoc_lt (by rw [hok.mlen]; exact e), he, litB_app hb.len, ih v e]
      obtain ⟨y, hy⟩ := get_of_lt (l := (balP c k).2) (k := v) (by rw [hok.mlen]; exact e)
      rw [List.getD_eq_getElem?_getD, hy]
      exact hok.lits y (List.mem_of_getElem? hy)
    · have hve : v = c.first.toNat + k := by omega
      show litB (vN _ (balS c (balP c k) k).1) (((balP c k).2 ++ [_]).getD v 0) = _
      rw [getD_snoc_at (by rw [hok.mlen]; exact hve)]
      have h2 := Lv_two hv k (by omega)
      have hj := joinL_val (F := c.first.toNat) (by omega) hb (Lv c k).length hok.gates (balL_lit hv hok (by omega)) (by simp; omega) (by simp)
      rw [show litB (vN (asgV c x) (balS c (balP c k) k).1) (balS c (balP c k) k).2 = _ from hj]
      have ha := Lv_all hv x k (by omega)
      rw [evalV_vN] at ha
      have hc : ((Lv c k).map (mapB (balP c k).2)).all (litB (vN (asgV c x) (balP c k).1)) = (Lv c k).all (litB (vN (asgV c x) c.gates)) := by
        rw [List.all_map]
        apply Bool.eq_iff_iff.2
        rw [List.all_eq_true, List.all_eq_true]
        have key : ∀ l ∈ Lv c k, (litB (vN (asgV c x) (balP c k).1) ∘ mapB (balP c k).2) l = litB (vN (asgV c x) c.gates) l := fun l hl => by
          obtain ⟨h0, h1⟩ := Lv_mem hv k (by omega) l hl
          exact litB_mapB (ih _ (by omega))
        exact ⟨fun h l hl => by rw [← key l hl]; exact h l hl, fun h l hl => by rw [key l hl]; exact h l hl⟩
      rw [hc, ha, hve, show 2 * (c.first + (k : Int)) = 2 * (((c.first.toNat + k : Nat)) : Int) by omega, litB_nat]

theorem balC_res {c : Cir} (hv : c.valid) (x : Int) : resV (balC c) x (-1) false = resV c x (-1) false := by
  have ea : asgV (balC c) x = asgV c x := by unfold asgV balC; simp
  have hf := (valid_first hv).1
  unfold resV
  rw [evalV_vN, evalV_vN, ea]
  show (c.next.map (mapB (balP c c.gates.length).2) ++ c.outs.map (mapB (balP c c.gates.length).2)).map _ = _
  rw [← List.map_append, List.map_map]
  apply List.map_congr_left
  intro l hl
  have h1 : litP l c.vars := by
    rcases List.mem_append.1 hl with h | h
    · exact hv.next l h
    · exact hv.outs l h
  have eV : c.vars = c.first + c.gates.length := rfl
  unfold litP at h1
  exact litB_mapB (balP_val hv x _ (Nat.le_refl _) _ (by omega))

/-! Depth, and the choice. -/

def mxL (L : List Int) : Int := L.foldl max 0

def depC (c : Cir) : Int := mxL ((c.next ++ c.outs).map (lvA (lvlL c.first.toNat c.gates)))

def balR (c : Cir) : Cir :=
  if c.validB then
    if (optC (balC (optC c))).validB = false ∨ depC (optC c) < depC (optC (balC (optC c))) ∨ (depC (optC (balC (optC c))) = depC (optC c) ∧ (optC c).gates.length < (optC (balC (optC c))).gates.length) then optC c else optC (balC (optC c))
  else ⟨0, [], [], []⟩

theorem balR_no {c : Cir} (h : c.validB = false) : balR c = ⟨0, [], [], []⟩ := by unfold balR; rw [h]; rfl

theorem balR_or {c : Cir} (h : c.validB = true) : balR c = optC c ∨ (balR c = optC (balC (optC c)) ∧ (optC (balC (optC c))).validB = true ∧ ¬ depC (optC c) < depC (optC (balC (optC c))) ∧ ¬ (depC (optC (balC (optC c))) = depC (optC c) ∧ (optC c).gates.length < (optC (balC (optC c))).gates.length)) := by
  unfold balR
  rw [if_pos h]
  split
  · exact .inl rfl
  · next hn =>
    refine .inr ⟨rfl, ?_, fun h => hn (.inr (.inl h)), fun h => hn (.inr (.inr h))⟩
    cases hv : (optC (balC (optC c))).validB
    · exact absurd (.inl hv) hn
    · rfl

theorem balR_valid {c : Cir} (hv : c.valid) : (balR c).valid := by
  rcases balR_or (c.validB_iff.2 hv) with h | ⟨h, h2, _⟩
  · rw [h]; exact optC_valid hv
  · rw [h]; exact (Cir.validB_iff _).1 h2

theorem balR_res {c : Cir} (hv : c.valid) (x : Int) : resV (balR c) x (-1) false = resV c x (-1) false := by
  have ho := optC_valid hv
  rcases balR_or (c.validB_iff.2 hv) with h | ⟨h, _⟩
  · rw [h]; exact optC_res hv x
  · rw [h, optC_res (balC_wide ho), balC_res ho, optC_res hv]

theorem lvlL_take {F : Nat} {gs : List Gt} {k : Nat} {g : Gt} (h : gs[k]? = some g) : lvlL F (gs.take (k + 1)) = lvlL F (gs.take k) ++ [1 + max ((lvlL F (gs.take k)).getD (g.a / 2).toNat 0) ((lvlL F (gs.take k)).getD (g.b / 2).toNat 0)] := by
  rw [List.take_add_one, h, Option.toList_some, lvlL_snoc]; rfl

theorem fill_set (L : List Int) (n k : Nat) (h : L.length ≤ n) (hk : L.length < n) (v : Int) : (L ++ List.replicate (n - L.length) (0 : Int)).set L.length v = (L ++ [v]) ++ List.replicate (n - (L.length + 1)) 0 := by
  obtain ⟨d, hd⟩ : ∃ d, n - L.length = d + 1 := ⟨n - L.length - 1, by omega⟩
  rw [hd, show n - (L.length + 1) = d by omega, List.replicate_succ, List.set_append_right _ _ (Nat.le_refl _), Nat.sub_self]
  simp

theorem mxL_snoc (L : List Int) (x : Int) : mxL (L ++ [x]) = max (mxL L) x := by simp [mxL]

theorem mxL_take {L : List Int} {k : Nat} {x : Int} (h : L[k]? = some x) : mxL (L.take (k + 1)) = max (mxL (L.take k)) x := by
  rw [List.take_add_one, h, Option.toList_some, mxL_snoc]

theorem mxL_bd {L : List Int} {B : Int} (hB : 0 ≤ B) (h : ∀ x ∈ L, 0 ≤ x ∧ x ≤ B) : 0 ≤ mxL L ∧ mxL L ≤ B := by
  have : ∀ (L : List Int) (a : Int), 0 ≤ a → a ≤ B → (∀ x ∈ L, 0 ≤ x ∧ x ≤ B) → 0 ≤ L.foldl max a ∧ L.foldl max a ≤ B := by
    intro L
    induction L with
    | nil => intro a h0 h1 _; exact ⟨h0, h1⟩
    | cons x L ih => intro a h0 h1 h; have := h x (by simp); exact ih _ (by omega) (by omega) fun y hy => h y (by simp [hy])
  exact this L 0 (Int.le_refl _) hB h

set_option maxRecDepth 100000 in
set_option maxHeartbeats 3200000 in
theorem depth_any (b : Nat) (sn sg so : Option Addr) (cn cg co : Nat) (c : Cir) (w : World) (h : CirAt w b c.inp (.slice sn c.next.length cn) (.slice sg c.gates.length cg) (.slice so c.outs.length co)) (hn : Sl w sn (ints c.next)) (hg : Sl w sg (gcells c.gates)) (ho : Sl w so (ints c.outs)) (hv : c.valid) :
    Calls Try.prog 37 #[.pointer (some ⟨b, 0, none⟩)] w fun e w' => e = .returned (.int .i64 (depC c)) ∧ Below w.heap.size w w' := by
  have HBl : Hid (b < w.heap.size) := World.block_lt_of_cell? w _ h.h0
  obtain ⟨q1, q2, q3, q4, q5⟩ := id hv.lim
  obtain ⟨F, hF⟩ : ∃ F : Nat, 1 + c.inp + (c.next.length : Int) = F := ⟨(1 + c.inp + (c.next.length : Int)).toNat, by omega⟩
  obtain ⟨n, hnn⟩ : ∃ n, n = c.gates.length := ⟨_, rfl⟩
  obtain ⟨V, hV⟩ : ∃ V, V = F + n := ⟨_, rfl⟩
  have hF8 : F ≤ 8 := by omega
  have hn14 : n ≤ 14 := by omega
  have hV22 : V ≤ 22 := by omega
  have eF : c.first.toNat = F := by rw [show c.first = (F : Int) from hF, Int.toNat_natCast]
  have HB : Hid (∀ W, Below w.heap.size w W → CirAt W b c.inp (.slice sn c.next.length cn) (.slice sg n cg) (.slice so c.outs.length co) ∧ Sl W sn (ints c.next) ∧ Sl W sg (gcells c.gates) ∧ Sl W so (ints c.outs)) := fun W hb => by
    rw [hnn]
    exact ⟨⟨(hb.cell (p := ⟨b, 0, none⟩) HBl.out).trans h.h0, (hb.cell (p := ⟨b, 1, none⟩) HBl.out).trans h.h1, (hb.cell (p := ⟨b, 2, none⟩) HBl.out).trans h.h2, (hb.cell (p := ⟨b, 3, none⟩) HBl.out).trans h.h3⟩, hn.mono hb, hg.mono hb, ho.mono hb⟩
  have hVn : 1 + c.inp + (c.next.length : Int) + (n : Int) = (V : Int) := by omega
  have HFF := Lib.hid (And.intro hF (And.intro hV (And.intro hnn (And.intro hVn (And.intro eF hv)))))
  have hmk := fun w => mkInts w V (by omega)
  have hFV : F + n ≤ V := by omega
  have hFV2 : V ≤ F + n := by omega
  clear h hn hg ho hv hF eF q4 hnn hVn hV
  obtain ⟨c0, c1, c2, c3⟩ := (HB.out _ (Below.refl _ _)).1
  go_enter Try.func37, Try.ntmps37
  go_upto_region 2 with (go_at_call 38; refine (vars_any b c.inp sn sg c.next.length cn n cg _ _ (HB.out _ (Below.refl _ _)).1 (by omega) (by omega) (by omega)).mono ?_; rintro e w1 ⟨rfl, hd⟩; rw [HFF.out.2.2.2.1]; have H1 := Lib.hid (hd.below w.heap.size); clear hd c0 c1 c2 c3)
  obtain ⟨G, hG⟩ : ∃ G, G = w1.heap.size := ⟨_, rfl⟩
  have x1 := blk_new w1 (.cells (ints (List.replicate V 0)).toArray 3)
  have x2 := H1.out.alloc H1.out.size (.cells (ints (List.replicate V 0)).toArray 3)
  have x3 : w.heap.size ≤ G := by rw [hG]; exact H1.out.size
  rw [← hG] at x1
  rw [← hG]
  clear hmk hG
  revert x1 x2
  generalize w1.alloc (.cells (ints (List.replicate V 0)).toArray 3) = W2
  intro x1 x2
  have H2 := Lib.hid (And.intro x1 x2)
  obtain ⟨c0, c1, c2, c3⟩ := (HB.out _ x2).1
  clear x1 x2
  go_wp2_with fail
  clear c0 c1 c2 c3
  go_loopw [17] (fun i wr => ∃ k : Nat, k ≤ n ∧ i = .int .i64 k ∧ wr.heap[G]? = some (.cells (ints (lvlL F (c.gates.take k) ++ List.replicate (V - (lvlL F (c.gates.take k)).length) 0)).toArray 3 (0, 0)) ∧ Below w.heap.size w wr) (fun i _ => n - (intOf i).toNat)
  case atStart => exact ⟨0, Nat.zero_le _, rfl, by
    have h := H2.out.1
    have e : lvlL F (c.gates.take 0) ++ List.replicate (V - (lvlL F (c.gates.take 0)).length) 0 = List.replicate V 0 := by
      rw [lvlL_length, List.take_zero]
      show List.replicate F 0 ++ _ = _
      rw [List.replicate_append_replicate]
      congr 1; simp; omega
    rw [e]; exact h, H2.out.2⟩
  case round =>
    obtain ⟨k, hk, rfl, hb, hbl⟩ := hrel
    by_cases hlt : k < n
    · obtain ⟨g, hg⟩ := get_of_lt (l := c.gates) (k := k) (by rw [← HFF.out.2.2.1]; exact hlt)
      obtain ⟨bg, og, rfl, hbw, z1, z2⟩ := (HB.out _ hbl).2.2.1.gate (Below.refl _ _) hg
      obtain ⟨⟨a0, a1⟩, b0, b1⟩ := valid_gate HFF.out.2.2.2.2.2 hg
      rw [show c.first = (F : Int) from HFF.out.1] at a1 b1
      have hll : (lvlL F (c.gates.take k)).length = F + k := by rw [lvlL_length, List.length_take, ← HFF.out.2.2.1, Nat.min_eq_left (by omega)]
      obtain ⟨L, hL⟩ : ∃ L, L = lvlL F (c.gates.take k) := ⟨_, rfl⟩
      have hLb : ∀ x ∈ L, 0 ≤ x ∧ x ≤ 14 := fun x hx => by
        have := lvlL_bd F (c.gates.take k) x (by rw [← hL]; exact hx)
        rw [List.length_take] at this
        have h3 := HFF.out.2.2.1
        omega
      rw [← hL] at hll hb
      obtain ⟨p, hp⟩ : ∃ p : Nat, g.a / 2 = p := ⟨(g.a / 2).toNat, by omega⟩
      obtain ⟨q, hq⟩ : ∃ q : Nat, g.b / 2 = q := ⟨(g.b / 2).toNat, by omega⟩
      have hpF : p < F + k := by omega
      have hqF : q < F + k := by omega
      have hpV : p < V := by omega
      have hqV : q < V := by omega
      obtain ⟨u, hu⟩ := get_of_lt (l := L) (k := p) (by omega)
      obtain ⟨v, hv⟩ := get_of_lt (l := L) (k := q) (by omega)
      obtain ⟨u0, u1⟩ := hLb u (List.mem_of_getElem? hu)
      obtain ⟨v0, v1⟩ := hLb v (List.mem_of_getElem? hv)
      have ta : g.a.tdiv 2 = p := by rw [Int.tdiv_eq_ediv_of_nonneg a0]; exact hp
      have tb : g.b.tdiv 2 = q := by rw [Int.tdiv_eq_ediv_of_nonneg b0]; exact hq
      have wp : IntKind.i64.wrap (p : Int) = p := IntWalk.i64_in _ ⟨by omega, by omega⟩
      have wq : IntKind.i64.wrap (q : Int) = q := IntWalk.i64_in _ ⟨by omega, by omega⟩
      obtain ⟨fk, hfk⟩ : ∃ fk : Nat, fk = F + k := ⟨_, rfl⟩
      have wfk : IntKind.i64.wrap ((F : Int) + (k : Int)) = (fk : Int) := by rw [IntWalk.i64_in _ ⟨by omega, by omega⟩]; omega
      have hfkV : fk < V := by omega
      have hAu : (L ++ List.replicate (V - L.length) 0)[p]? = some u := by rw [List.getElem?_append_left (by omega)]; exact hu
      have hAv : (L ++ List.replicate (V - L.length) 0)[q]? = some v := by rw [List.getElem?_append_left (by omega)]; exact hv
      obtain ⟨mx, hmx⟩ : ∃ mx, mx = max u v := ⟨_, rfl⟩
      have hif : (if u < v then v else u) = mx := by split <;> omega
      obtain ⟨m1, hm1⟩ : ∃ m1, m1 = 1 + mx := ⟨_, rfl⟩
      have wm : IntKind.i64.wrap (1 + mx) = m1 := by rw [IntWalk.i64_in _ ⟨by omega, by omega⟩]; exact hm1.symm
      have em : 1 + mx = m1 := hm1.symm
      obtain ⟨GB, hGB⟩ : ∃ GB, GB = wr.heap.size := ⟨_, rfl⟩
      have hGG : G < GB := by rw [hGB]; exact blk_lt hb
      have k1 := blk_new wr (.cells #[.int .i64 g.a, .int .i64 g.b] 24)
      have k2 := blk_old (o := .cells #[.int .i64 g.a, .int .i64 g.b] 24) hb
      have k3 := hbl.alloc hbl.size (.cells #[.int .i64 g.a, .int .i64 g.b] 24)
      rw [← hGB] at k1
      have HL := Lib.hid (And.intro hg (And.intro hL (And.intro hu (And.intro hv (And.intro hll (And.intro hfk (And.intro hmx hm1)))))))
      clear hb hbl hg hL hLb hu hv hbw a1 b1 hll hp hq hfk hmx hm1
      go_upto_region 5 with fail
      rw [← hGB]
      clear hGB z1 z2
      revert k1 k2 k3
      generalize wr.alloc (.cells #[.int .i64 g.a, .int .i64 g.b] 24) = W3
      intro k1 k2 k3
      have HS : Hid (∀ W, Below W3.heap.size W3 W → (W.cell? ⟨GB, 0, none⟩ = some (.int .i64 g.a) ∧ W.cell? ⟨GB, 1, none⟩ = some (.int .i64 g.b) ∧ W.cell? ⟨G, p, none⟩ = some (.int .i64 u) ∧ W.cell? ⟨G, q, none⟩ = some (.int .i64 v)) ∧ W.heap[G]? = some (.cells (ints (L ++ List.replicate (V - L.length) 0)).toArray 3 (0, 0)) ∧ Below w.heap.size w W) := fun W hW => by
        have h1 := blk_below hW (blk_lt k2) k2
        have h2 := (blk_all (blk_below hW (blk_lt k1) k1)).1
        exact ⟨⟨by simpa using h2 0, by simpa using h2 1, ints_cell h1 hAu, ints_cell h1 hAv⟩, h1, k3.trans (hW.mono k3.size)⟩
      clear k1 k2 k3 hAu hAv
      refine wp_region_E (fun W => W.cell? ⟨GB, 0, none⟩ = some (.int .i64 g.a) ∧ W.cell? ⟨GB, 1, none⟩ = some (.int .i64 g.b) ∧ W.cell? ⟨G, p, none⟩ = some (.int .i64 u) ∧ W.cell? ⟨G, q, none⟩ = some (.int .i64 v)) 20 (.q 0 (.q 1 (.q 3 (.q 5 (.q 6 (.q 7 (.q 8 (.q 9 (.q 10 (.q 11 (.q 12 (.q 13 (.q 14 (.q 15 (.q 16 (.q 17 (.q 18 (.e 2 (.q 4 (.q 19 (.z 20))))))))))))))))))))) (by kernel_rfl) (by kernel_rfl) (by kernel_rfl) (by kernel_rfl) (by kernel_rfl) (by kernel_rfl) (HS.out _ (Below.refl _ _).drew).1 ?_
      have hdr : Below W3.heap.size W3 W3.drew := (Below.refl _ _).drew
      revert hdr
      generalize W3.drew = WD
      intro hdr
      repeat (first | (refine orde_s (o := ?_) ?_ ?_ ?_; rotate_left 1; (focus ((simp only [zD, zE, zF]) <;> rfl)); (focus rfl); simp only [Act.put, zA, zB, zC]) | (refine orde_q (o := ?_) (v := ?_) ?_ ?_ ?_ ?_; rotate_left 2; (focus ((simp only [zD, zE, zF]) <;> rfl)); (focus rfl); (focus (intro w' hS; (try dsimp only at hS); go_split_ands; go_simp; (try (with_reducible rfl)))); simp only [Act.put, zA, zB, zC]))
      refine orde_e ?_
      (refine ope_e (o := ?_) ?_ ?_ (fun K hK => ?_); rotate_left 1; (focus ((simp only [zD, zE, zF]) <;> rfl)); (focus rfl); go_simp)
      refine (firstGate_any b c.inp sn c.next.length cn _ _ WD (HB.out _ (HS.out _ hdr).2.2).1 (by omega) (by omega)).mono ?_
      rintro e w4 ⟨rfl, hd⟩
      rw [HFF.out.1]
      have hb4 := hdr.trans ((hd.below _).mono hdr.size)
      refine hK.out _ _ (HS.out _ hb4).1 ?_
      clear hK K hd
      have H4 := Lib.hid hb4
      clear hb4 hdr
      have z0 : ∃ x, w4.cell? ⟨G, fk, none⟩ = some (.int .i64 x) := by
        obtain ⟨x, hx⟩ := get_of_lt (l := L ++ List.replicate (V - L.length) 0) (k := fk) (by rw [List.length_append, List.length_replicate]; have := HL.out.2.2.2.2.1; omega)
        exact ⟨x, ints_cell (HS.out _ H4.out).2.1 hx⟩
      obtain ⟨x0, z0⟩ := z0
      have z1 : w4.frozen? ⟨G, fk, none⟩ = false := blk_free (HS.out _ H4.out).2.1
      (try simp only [Act.put, zA, zB, zC])
      repeat (first | (refine orde_s (o := ?_) ?_ ?_ ?_; rotate_left 1; (focus ((simp only [zD, zE, zF]) <;> rfl)); (focus rfl); simp only [Act.put, zA, zB, zC]) | (refine orde_q (o := ?_) (v := ?_) ?_ ?_ ?_ ?_; rotate_left 2; (focus ((simp only [zD, zE, zF]) <;> rfl)); (focus rfl); (focus (intro w' hS; (try dsimp only at hS); go_split_ands; go_simp; (try (with_reducible rfl)))); simp only [Act.put, zA, zB, zC]))
      (refine orde_z (o := ?_) ?_ ?_ (fun K hK => ?_); rotate_left 1; (focus ((simp only [zD, zE, zF]) <;> rfl)); (focus rfl); go_simp)
      refine hK.out _ _ ?_
      clear hK K z0 z1
      have r1 : (w4.setCell ⟨G, fk, none⟩ (.int .i64 m1)).heap[G]? = some (.cells (ints (lvlL F (c.gates.take (k + 1)) ++ List.replicate (V - (lvlL F (c.gates.take (k + 1))).length) 0)).toArray 3 (0, 0)) := by
        have h := ints_blk_set (HS.out _ H4.out).2.1 fk m1
        obtain ⟨hg, hL, hu, hv, hll, hfk, hmx, hm1⟩ := HL.out
        have e1 : lvlL F (c.gates.take (k + 1)) = L ++ [m1] := by
          rw [lvlL_take hg, ← hL]
          congr 2
          rw [hm1, hmx, List.getD_eq_getElem?_getD, List.getD_eq_getElem?_getD]
          have e2 : (g.a / 2).toNat = p := by rw [← Int.tdiv_eq_ediv_of_nonneg a0, ta]; exact Int.toNat_natCast p
          have e3 : (g.b / 2).toNat = q := by rw [← Int.tdiv_eq_ediv_of_nonneg b0, tb]; exact Int.toNat_natCast q
          rw [e2, e3, hu, hv]; rfl
        rw [e1, List.length_append, List.length_singleton]
        have e5 : fk = L.length := by omega
        rw [e5, fill_set L V L.length (by omega) (by omega)] at h
        rw [e5]
        exact h
      have r2 : Below w.heap.size w (w4.setCell ⟨G, fk, none⟩ (.int .i64 m1)) := (HS.out _ H4.out).2.2.setCell (p := ⟨G, fk, none⟩) x3 _
      have H9 := Lib.hid (And.intro r1 r2)
      clear r1 r2
      go_wp2_with fail
      go_roundw
      case rel => exact ⟨k + 1, by omega, by go_num, H9.out.1, H9.out.2⟩
      case measure => simp [intOf]; omega
    · obtain rfl : k = n := by omega
      have hlv : (lvlL F (c.gates.take k)).length = V := by rw [lvlL_length, List.length_take, ← HFF.out.2.2.1, Nat.min_self]; exact HFF.out.2.1.symm
      rw [hlv, Nat.sub_self, List.replicate_zero, List.append_nil] at hb
      have hLe : lvlL F (c.gates.take k) = lvlL F c.gates := by rw [HFF.out.2.2.1, List.take_length]
      rw [hLe] at hb hlv
      obtain ⟨L, hL⟩ : ∃ L, L = lvlL F c.gates := ⟨_, rfl⟩
      rw [← hL] at hb hlv
      obtain ⟨rs, hrs⟩ : ∃ rs, rs = c.next ++ c.outs := ⟨_, rfl⟩
      have hrl : rs.length = c.next.length + c.outs.length := by rw [hrs]; simp
      have hlit : ∀ x ∈ rs, 0 ≤ x ∧ x / 2 < V := fun x hx => by
        have h1 : litP x c.vars := by
          rw [hrs] at hx
          rcases List.mem_append.1 hx with h | h
          · exact HFF.out.2.2.2.2.2.next x h
          · exact HFF.out.2.2.2.2.2.outs x h
        have eV : c.vars = 1 + c.inp + (c.next.length : Int) + (c.gates.length : Int) := rfl
        have := HFF.out.2.2.2.1
        rw [← HFF.out.2.2.1] at eV
        unfold litP at h1
        omega
      have hLb : ∀ x ∈ L, 0 ≤ x ∧ x ≤ 14 := fun x hx => by
        have := lvlL_bd F c.gates x (by rw [← hL]; exact hx)
        have h3 := HFF.out.2.2.1
        omega
      obtain ⟨ds, hds⟩ : ∃ ds, ds = rs.map (lvA L) := ⟨_, rfl⟩
      have hdl : ds.length = rs.length := by rw [hds]; simp
      have hdb : ∀ x ∈ ds, 0 ≤ x ∧ x ≤ 14 := fun x hx => by
        rw [hds] at hx
        obtain ⟨y, hy, rfl⟩ := List.mem_map.1 hx
        unfold lvA
        rw [List.getD_eq_getElem?_getD]
        cases e : L[(y / 2).toNat]? with
        | none => simp
        | some z => simpa using hLb z (List.mem_of_getElem? e)
      have hdep : depC c = mxL ds := by unfold depC; rw [hds, hrs, hL, HFF.out.2.2.2.2.1]
      have HL := Lib.hid (And.intro hrs (And.intro hlit (And.intro hds (And.intro hdl (And.intro hdb (And.intro hdep hlv))))))
      have HR := Lib.hid (And.intro hb hbl)
      clear hL hlv hLe hlit hLb hds hdl hdb hdep hb hbl
      have hC := (HB.out _ HR.out.2)
      go_upto_region 9 with (go_at_call 71; refine (roots_any b c.inp sn so cn co c.next c.outs _ _ (HB.out _ HR.out.2).1 (HB.out _ HR.out.2).2.1 (HB.out _ HR.out.2).2.2.2 (by omega) (by omega)).mono ?_; rintro e w5 ⟨s5, c5, rfl, ho5, hq⟩; rw [ints_append, ← HL.out.1] at ho5; have H5 := Lib.hid (And.intro (own_sl ho5) (And.intro (blk_below hq (blk_lt HR.out.1) HR.out.1) (HR.out.2.trans (hq.mono HR.out.2.size)))); clear ho5 hq)
      clear hC hrs
      rw [← hrl]
      obtain ⟨R, hR⟩ : ∃ R, R = rs.length := ⟨_, rfl⟩
      rw [← hR]
      have hri : (c.next.length : Int) + (c.outs.length : Int) = (R : Int) := by omega
      rw [hri]
      have HRl := Lib.hid hR
      have hR6 : R ≤ 6 := by omega
      clear hR hrl hri
      go_loopw [46, 6] (fun i d wr => ∃ k : Nat, k ≤ R ∧ i = .int .i64 k ∧ d = .int .i64 (mxL (ds.take k)) ∧ Below w5.heap.size w5 wr) (fun i _ _ => R - (intOf i).toNat)
      case atStart => exact ⟨0, Nat.zero_le _, rfl, rfl, Below.refl _ _⟩
      case round =>
        obtain ⟨k2, hk2, rfl, rfl, hb2⟩ := hrel
        have HK := Lib.hid hb2
        clear hb2
        by_cases hlt2 : k2 < R
        · obtain ⟨l, hl⟩ := get_of_lt (l := rs) (k := k2) (by rw [← HRl.out]; exact hlt2)
          obtain ⟨b5, o5, rfl, hb5, z5⟩ := H5.out.1.int HK.out hl
          obtain ⟨l0, l1⟩ := HL.out.2.1 l (List.mem_of_getElem? hl)
          obtain ⟨p, hp⟩ : ∃ p : Nat, l / 2 = p := ⟨(l / 2).toNat, by omega⟩
          have hpV : p < V := by omega
          obtain ⟨u, hu⟩ := get_of_lt (l := L) (k := p) (by rw [HL.out.2.2.2.2.2.2]; exact hpV)
          have hd : ds[k2]? = some u := by
            rw [HL.out.2.2.1, List.getElem?_map, hl, Option.map_some]
            congr 1
            unfold lvA
            rw [hp, Int.toNat_natCast, List.getD_eq_getElem?_getD, hu]; rfl
          have hub := HL.out.2.2.2.2.1 u (List.mem_of_getElem? hd)
          obtain ⟨u0, u1⟩ := hub
          have hmt := mxL_take hd
          obtain ⟨d0, d1⟩ := mxL_bd (L := ds.take k2) (B := 14) (by omega) (fun x hx => HL.out.2.2.2.2.1 x (List.mem_of_mem_take hx))
          obtain ⟨d, hdd⟩ : ∃ d, d = mxL (ds.take k2) := ⟨_, rfl⟩
          rw [← hdd] at hmt d0 d1 ⊢
          obtain ⟨mx, hmx⟩ : ∃ mx, mx = max d u := ⟨_, rfl⟩
          have hif : (if d < u then u else d) = mx := by split <;> omega
          have zG := ints_cell (blk_below HK.out (blk_lt H5.out.2.1) H5.out.2.1) hu
          rw [← hmx] at hmt
          have HM := Lib.hid hmt
          clear hl hb5 hu hd hmt hmx hdd
          go_wp2_with fail
          go_roundw
          case rel => exact ⟨k2 + 1, by omega, by go_num, by rw [HM.out], HK.out⟩
          case measure => simp [intOf]; omega
        · obtain rfl : k2 = R := by omega
          go_wp2_with fail
          go_ret
          exact ⟨ret_int (by rw [HL.out.2.2.2.2.2.1, List.take_of_length_le (by rw [HL.out.2.2.2.1, HRl.out]; exact Nat.le_refl _)]), H5.out.2.2.trans (HK.out.mono H5.out.2.2.size)⟩

end Go.Proofs.Ytdcjiclonjillaa
