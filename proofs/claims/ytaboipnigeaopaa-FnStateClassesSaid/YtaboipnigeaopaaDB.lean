import Derived.Test.YtaboipnigeaopaaDA
import Derived.Test.YtaboipnigeaopaaRA
namespace Go.Proofs.Ytaboipnigeaopaa
set_option linter.unusedVariables false
set_option linter.unusedSimpArgs false
open Go.RowKit

/-! Bisimulations between circuits: plain laws. -/

theorem bitsV_cons (x : Int) (n : Nat) : bitsV x (n + 1) = decide (x % 2 = 1) :: bitsV (x / 2) n := by
  unfold bitsV
  rw [List.range_succ_eq_map, List.map_cons, List.map_map]
  congr 1
  · simp
  · apply List.map_congr_left
    intro i _
    show decide (x / 2 ^ (i + 1) % 2 = 1) = decide (x / 2 / 2 ^ i % 2 = 1)
    rw [Int.pow_succ, Int.mul_comm, Int.ediv_ediv, if_neg (by omega), Int.sub_zero]
theorem bitsV_numB : ∀ (bs : List Bool), bitsV (numB bs) bs.length = bs
  | [] => rfl
  | b :: bs => by
    rw [List.length_cons, bitsV_cons]
    have e1 : numB (b :: bs) / 2 = numB bs := by
      show ((if b then 1 else 0) + 2 * numB bs) / 2 = numB bs
      cases b <;> simp <;> omega
    have e2 : decide (numB (b :: bs) % 2 = 1) = b := by
      show decide (((if b then 1 else 0) + 2 * numB bs) % 2 = 1) = b
      cases b <;> simp <;> omega
    rw [e1, e2, bitsV_numB bs]
theorem numB_bitsV : ∀ (n : Nat) (x : Int), 0 ≤ x → x < 2 ^ n → numB (bitsV x n) = x
  | 0, x, h0, h1 => by
    have : x = 0 := by simp at h1; omega
    subst this; rfl
  | n + 1, x, h0, h1 => by
    rw [bitsV_cons]
    show (if decide (x % 2 = 1) = true then 1 else 0) + 2 * numB (bitsV (x / 2) n) = x
    rw [Int.pow_succ] at h1
    rw [numB_bitsV n (x / 2) (by omega) (by omega)]
    by_cases h : x % 2 = 1
    · rw [if_pos (by simp [h])]; omega
    · rw [if_neg (by simp [h])]; omega
theorem numB_inj {xs bs : List Bool} (h : xs.length = bs.length) (e : numB xs = numB bs) : xs = bs := by
  rw [← bitsV_numB xs, ← bitsV_numB bs, e, h]
theorem bitsV_zero (n : Nat) : bitsV 0 n = List.replicate n false := by
  unfold bitsV
  apply List.ext_getElem
  · simp
  · intro i h1 h2
    simp

/-- The values ahead of the gates. -/
def bC (c : Cir) (s x : Int) : List Bool := false :: (bitsV x c.inp.toNat ++ bitsV s c.next.length)
theorem bC_length (c : Cir) (s x : Int) : (bC c s x).length = 1 + c.inp.toNat + c.next.length := by
  simp [bC, bitsV_length]; omega
theorem cycV_vN (c : Cir) (s x : Int) : cycV c s x = vN (bC c s x) c.gates := rfl
theorem outN_eq {a b : Cir} (h : a.outs.length = b.outs.length) {s x t y : Int} : outN a s x = outN b t y ↔ a.outs.map (litB (cycV a s x)) = b.outs.map (litB (cycV b t y)) := by
  unfold outN
  exact ⟨fun e => numB_inj (by simpa using h) e, fun e => by rw [e]⟩
theorem hitD_iff {a b : Cir} (h : a.outs.length = b.outs.length) (s : Int × Int) (x : Int) : hitD a b s x = false ↔ a.outs.map (litB (cycV a s.1 x)) = b.outs.map (litB (cycV b s.2 x)) := by
  unfold hitD
  rw [← outN_eq h]; simp
theorem nextN_bits (c : Cir) (s x : Int) : bitsV (nextN c s x) c.next.length = c.next.map (litB (cycV c s x)) := by
  have := bitsV_numB (c.next.map (litB (cycV c s x)))
  rw [List.length_map] at this
  exact this

/-- A circuit with renamed variables computes the same values on a set of variables that is closed under operands. -/
theorem ren_vals {F F' : Nat} {b b' : List Bool} {gs gs' : List Gt} (hF : b.length = F) (hF' : b'.length = F') (hg : gatesP F gs) (hg' : gatesP F' gs') {m : Nat → Int} {f : Int → Int} {U : Nat → Prop}
    (hf : ∀ l : Int, 0 ≤ l → f l = xrb (m (l / 2).toNat) (l % 2)) (hU : ∀ (k : Nat) (g : Gt), gs[k]? = some g → U (F + k) → U (g.a / 2).toNat ∧ U (g.b / 2).toNat)
    (hb : ∀ v, v < F → U v → litP (m v) F' ∧ litB b' (m v) = b.getD v false) (hgs : ∀ (k : Nat) (g : Gt), gs[k]? = some g → gs'[k]? = some ⟨f g.a, f g.b⟩)
    (hm : ∀ k, k < gs.length → U (F + k) → m (F + k) = 2 * ((F' + k : Nat) : Int) ∨ (litP (m (F + k)) F' ∧ litB b' (m (F + k)) = (vN b gs).getD (F + k) false)) :
    ∀ v, v < F + gs.length → U v → litB (vN b' gs') (m v) = (vN b gs).getD v false := by
  have hbase : ∀ l : Int, litP l F' → litB (vN b' gs') l = litB b' l := fun l hl => by
    have := litB_app (b := b') (gs := []) (hs := gs') hF' (l := l) (by simpa using hl)
    rw [List.nil_append] at this
    rw [this]; rfl
  intro v
  induction v using Nat.strongRecOn with
  | ind v ih =>
    intro hv hu
    by_cases h : v < F
    · obtain ⟨h1, h2⟩ := hb v h hu
      rw [hbase _ h1, h2]
      obtain ⟨r, hr⟩ := vN_base b gs
      rw [hr]
      simp only [List.getD_eq_getElem?_getD]
      rw [List.getElem?_append_left (by omega)]
    · obtain ⟨k, rfl⟩ : ∃ k, v = F + k := ⟨v - F, by omega⟩
      have hk : k < gs.length := by omega
      rcases hm k hk hu with e | ⟨h1, h2⟩
      · obtain ⟨g, hgk⟩ : ∃ g, gs[k]? = some g := ⟨gs[k], by simp [hk]⟩
        have hp := gatesP_at hg hgk
        obtain ⟨u1, u2⟩ := hU k g hgk hu
        rw [e, litB_nat, vN_gate hF' hg' (hgs k g hgk), vN_gate hF hg hgk]
        have key : ∀ l : Int, litP l (F + k) → U (l / 2).toNat → litB (vN b' gs') (f l) = litB (vN b gs) l := fun l hl hul => by
          have hlt : (l / 2).toNat < F + k := litP_lt hl
          rw [hf l hl.1, litB_xrb (by omega), ih _ hlt (by omega) hul]
          rfl
        rw [key _ hp.1 u1, key _ hp.2 u2]
      · rw [hbase _ h1, h2]
theorem ren_lit {us vs : List Bool} {m : Nat → Int} {f : Int → Int} (hf : ∀ l : Int, 0 ≤ l → f l = xrb (m (l / 2).toNat) (l % 2)) {l : Int} (h0 : 0 ≤ l) (h : litB us (m (l / 2).toNat) = vs.getD (l / 2).toNat false) : litB us (f l) = litB vs l := by
  rw [hf l h0, litB_xrb (by omega), h]
  rfl

theorem litB_def' (vs : List Bool) (l : Int) : litB vs l = (vs.getD (l / 2).toNat false != decide (l % 2 = 1)) := rfl
theorem getD_rep (n k : Nat) : (List.replicate n false).getD k false = false := by
  rw [List.getD_eq_getElem?_getD]
  by_cases h : k < n
  · rw [List.getElem?_replicate_of_lt h]; rfl
  · rw [List.getElem?_eq_none (by simpa using h)]; rfl

theorem bits_tail (c : Cir) (s x : Int) {j : Nat} : (bC c s x).getD (1 + c.inp.toNat + j) false = (bitsV s c.next.length).getD j false := by
  unfold bC
  simp only [List.getD_eq_getElem?_getD]
  rw [show 1 + c.inp.toNat + j = (c.inp.toNat + j) + 1 by omega, List.getElem?_cons_succ, List.getElem?_append_right (by rw [bitsV_length]; omega), bitsV_length]
  congr 2; omega

end Go.Proofs.Ytaboipnigeaopaa
