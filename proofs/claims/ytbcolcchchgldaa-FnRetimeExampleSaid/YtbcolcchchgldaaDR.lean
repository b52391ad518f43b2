import Derived.Test.YtbcolcchchgldaaDB
import Derived.Test.YtbcolcchchgldaaW7
namespace Go.Proofs.Ytbcolcchchgldaa
set_option linter.unusedVariables false
set_option linter.unusedSimpArgs false
open Go.RowKit

/-! Retiming. -/

/-- The value of a latch's literal in a state. -/
def litS (c : Cir) (s l : Int) : Bool := (bitsV s c.next.length).getD (l / 2 - 1 - c.inp).toNat false != decide (l % 2 = 1)
def relRet (c : Cir) (g : Gt) (s t : Int) : Prop := bitsV t (c.next.length + 1) = bitsV s c.next.length ++ [(litS c s g.a && litS c s g.b) != decide (g.a % 2 * (g.b % 2) = 1)]
def mRt (F i t : Int) (v : Nat) : Int := if (v : Int) < F then 2 * (v : Int) else if (v : Int) = F + i then 2 * F + t else 2 * (v : Int) + 2
theorem retF_m {F i t : Int} (hF : 0 ≤ F) (hi : 0 ≤ i) (ht : t = 0 ∨ t = 1) (l : Int) (h0 : 0 ≤ l) : retF F i t l = xrb (mRt F i t (l / 2).toNat) (l % 2) := by
  unfold retF mRt xrb
  rw [show (((l / 2).toNat : Nat) : Int) = l / 2 by omega]
  by_cases h1 : l / 2 = F + i
  · rw [if_pos h1, if_neg (by omega), if_pos h1]; omega
  · rw [if_neg h1]
    by_cases h2 : F ≤ l / 2
    · rw [if_pos h2, if_neg (by omega), if_neg h1]; omega
    · rw [if_neg h2, if_pos (by omega)]; omega
theorem retF_lit {F i t l n : Int} (hF : 0 ≤ F) (hi : 0 ≤ i) (ht : t = 0 ∨ t = 1) (h : litP l (F + n)) (hn : 0 ≤ n) : litP (retF F i t l) (F + 1 + n) := by
  obtain ⟨h0, h1⟩ := h
  unfold retF litP
  by_cases h2 : l / 2 = F + i
  · rw [if_pos h2]; omega
  · rw [if_neg h2]
    by_cases h3 : F ≤ l / 2
    · rw [if_pos h3]; omega
    · rw [if_neg h3]; omega
theorem xr_xrb (y b : Int) : xr y b = xrb y b := rfl
/-- A latch's literal has the value of the latch. -/
theorem latch_val {c : Cir} (h0 : 0 ≤ c.inp) {l : Int} (h : latchLit c l) (s x : Int) (gs : List Gt) : litB (vN (bC c s x) gs) l = litS c s l := by
  unfold latchLit at h
  unfold litB litS
  congr 1
  obtain ⟨r, hr⟩ := vN_base (bC c s x) gs
  rw [hr]
  have e : (l / 2).toNat = 1 + c.inp.toNat + (l / 2 - 1 - c.inp).toNat := by omega
  rw [e, ← bits_tail c s x]
  simp only [List.getD_eq_getElem?_getD]
  rw [List.getElem?_append_left (by rw [bC_length]; omega)]

theorem retG_valid {c : Cir} {i : Nat} {g : Gt} (h : canRetimeB c i = true) (hg : c.gates[i]? = some g) : (retG c i g).valid := by
  obtain ⟨k, g', e, hg', hvB, hn3, hg14, la, lb⟩ := canRetime_yes h
  obtain rfl : i = k := by omega
  rw [hg] at hg'
  cases hg'
  have hv := c.validB_iff.1 hvB
  obtain ⟨q1, q2, q3, q4, q5⟩ := hv.lim
  have eF : (retG c i g).first = c.first + 1 := by unfold retG Cir.first; simp; omega
  have eV : (retG c i g).vars = c.first + 1 + (c.gates.length + 1) := by unfold retG Cir.vars Cir.first; simp [mapG]; omega
  have hF0 : 0 ≤ c.first := by unfold Cir.first; omega
  have cV : c.vars = c.first + c.gates.length := rfl
  obtain ⟨t, ht⟩ : ∃ t, t = g.a % 2 * (g.b % 2) := ⟨_, rfl⟩
  have ht2 : t = 0 ∨ t = 1 := by
    rcases (show g.a % 2 = 0 ∨ g.a % 2 = 1 by omega) with e | e <;> rw [ht, e] <;> omega
  have key : ∀ {l n : Int}, litP l (c.first + n) → 0 ≤ n → litP (retF c.first i t l) (c.first + 1 + n) := fun h hn => retF_lit hF0 (by omega) ht2 h hn
  have hnx : ∀ l, latchLit c l → litP (xr ((c.next[(l / 2 - 1 - c.inp).toNat]?).getD 0) (l % 2)) (c.first + c.gates.length) := fun l hl => by
    unfold latchLit at hl
    obtain ⟨y, hy⟩ : ∃ y, c.next[(l / 2 - 1 - c.inp).toNat]? = some y := get_of_lt (by omega)
    rw [hy]
    have := hv.next y (List.mem_of_getElem? hy)
    rw [cV] at this
    unfold litP at this ⊢
    unfold xr
    simp only [Option.getD_some]
    omega
  refine ⟨⟨q1, q2, ?_, ?_, ?_⟩, ?_, ?_, ?_⟩
  · unfold retG; simp; omega
  · unfold retG; simp [mapG]; omega
  · unfold retG; simpa using q5
  · rw [eF]
    unfold retG
    dsimp only
    rw [← ht]
    intro j hj
    by_cases hlt : j < c.gates.length
    · have := hv.gates j hlt
      simp only [mapG]
      rw [List.getElem_append_left (by simpa using hlt)]
      simp only [List.getElem_map]
      exact ⟨key this.1 (by omega), key this.2 (by omega)⟩
    · have hj2 : j = c.gates.length := by simp [mapG] at hj; omega
      subst hj2
      simp only [mapG]
      rw [List.getElem_append_right (by simp)]
      simp only [List.length_map, Nat.sub_self, List.getElem_cons_zero]
      exact ⟨key (hnx _ la) (by omega), key (hnx _ lb) (by omega)⟩
  · rw [eV]
    unfold retG
    dsimp only
    rw [← ht]
    intro y hy
    rcases List.mem_append.1 hy with hy | hy
    · obtain ⟨z, hz, rfl⟩ := List.mem_map.1 hy
      have h1 := hv.next z hz
      rw [cV] at h1
      have := key h1 (by omega)
      unfold litP at this ⊢; omega
    · simp at hy; subst hy
      unfold litP; omega
  · rw [eV]
    unfold retG
    dsimp only
    rw [← ht]
    intro y hy
    obtain ⟨z, hz, rfl⟩ := List.mem_map.1 hy
    have h1 := hv.outs z hz
    rw [cV] at h1
    have := key h1 (by omega)
    unfold litP at this ⊢; omega

theorem ret_seq {c : Cir} {i : Nat} {g : Gt} (h : canRetimeB c i = true) (hg : c.gates[i]? = some g) : seqB c (retG c i g) = true := by
  have hval := retG_valid h hg
  obtain ⟨k, g', e, hg', hvB, hn3, hg14, la, lb⟩ := canRetime_yes h
  obtain rfl : i = k := by omega
  rw [hg] at hg'
  cases hg'
  have hv := c.validB_iff.1 hvB
  obtain ⟨q1, q2, q3, q4, q5⟩ := hv.lim
  have hi := (List.getElem?_eq_some_iff.1 hg).1
  obtain ⟨t, ht⟩ : ∃ t, t = g.a % 2 * (g.b % 2) := ⟨_, rfl⟩
  have ht2 : t = 0 ∨ t = 1 := by
    rcases (show g.a % 2 = 0 ∨ g.a % 2 = 1 by omega) with e | e <;> rw [ht, e] <;> omega
  obtain ⟨F, hF⟩ : ∃ F : Nat, c.first = F := ⟨c.first.toNat, by unfold Cir.first; omega⟩
  have hF2 : F = 1 + c.inp.toNat + c.next.length := by unfold Cir.first at hF; omega
  have eX : retG c i g = ⟨c.inp, c.next.map (retF F i t) ++ [2 * ((F : Int) + 1 + c.gates.length) + t], mapG (retF F i t) c.gates ++ [⟨retF F i t (xr ((c.next[(g.a / 2 - 1 - c.inp).toNat]?).getD 0) (g.a % 2)), retF F i t (xr ((c.next[(g.b / 2 - 1 - c.inp).toNat]?).getD 0) (g.b % 2))⟩], c.outs.map (retF F i t)⟩ := by
    unfold retG; rw [hF, ht]
  have hgF : gatesP F c.gates := by rw [← hF]; exact hv.gates
  have hgX : gatesP ((F + 1 : Nat) : Int) (retG c i g).gates := by
    have := hval.gates
    rw [show (retG c i g).first = ((F + 1 : Nat) : Int) by rw [← show c.first + 1 = ((F + 1 : Nat) : Int) by omega]; unfold retG Cir.first; simp; omega] at this
    exact this
  have hxn : (retG c i g).next.length = c.next.length + 1 := by rw [eX]; simp
  have hxi : (retG c i g).inp = c.inp := by rw [eX]
  have hxo : c.outs.length = (retG c i g).outs.length := by rw [eX]; simp
  have hcmp : cmpB c (retG c i g) = true := cmpB_iff.2 ⟨hvB, (Cir.validB_iff _).2 hval, hxi.symm, hxo⟩
  have cV : c.vars = (F : Int) + c.gates.length := by rw [← hF]; rfl
  -- the values agree in related states
  have vals : ∀ s u x : Int, relRet c g s u → ∀ l : Int, 0 ≤ l → l / 2 < (F : Int) + c.gates.length → litB (cycV (retG c i g) u x) (retF F i t l) = litB (cycV c s x) l := by
    intro s u x hr l h0 h1
    have hbX : bC (retG c i g) u x = bC c s x ++ [(litS c s g.a && litS c s g.b) != decide (t = 1)] := by
      unfold bC
      rw [hxi, hxn, hr, ht]
      simp
    have hbl : (bC c s x).length = F := by rw [bC_length, hF2]
    rw [cycV_vN, cycV_vN]
    refine ren_lit (m := mRt F i t) (fun l h0 => retF_m (by omega) (by omega) ht2 l h0) h0 ?_
    refine ren_vals (F := F) (F' := F + 1) hbl (by rw [hbX]; simp [hbl]) hgF hgX (m := mRt F i t) (f := retF F i t) (U := fun _ => True) (fun l h0 => retF_m (by omega) (by omega) ht2 l h0) (fun _ _ _ _ => ⟨trivial, trivial⟩) ?_ ?_ ?_ _ (by omega) trivial
    · intro v hv _
      have e : mRt F i t v = 2 * (v : Int) := by unfold mRt; rw [if_pos (by omega)]
      rw [e]
      refine ⟨by unfold litP; omega, ?_⟩
      rw [litB_nat, hbX]
      simp only [List.getD_eq_getElem?_getD]
      rw [List.getElem?_append_left (by omega)]
    · intro j gj hj
      rw [eX]
      simp only
      rw [List.getElem?_append_left (by simpa [mapG] using (List.getElem?_eq_some_iff.1 hj).1)]
      simp [mapG, hj]
    · intro j hj _
      by_cases hji : j = i
      · subst hji
        right
        have e : mRt F j t (F + j) = 2 * F + t := by unfold mRt; rw [if_neg (by omega), if_pos (by omega)]
        rw [e]
        refine ⟨by unfold litP; omega, ?_⟩
        rw [vN_gate hbl hgF hg, latch_val q1 la, latch_val q1 lb, hbX]
        rw [litB_def', show ((2 * (F : Int) + t) / 2).toNat = F by omega, List.getD_eq_getElem?_getD, List.getElem?_append_right (by omega), hbl, Nat.sub_self]
        rcases ht2 with e | e
        · rw [e]; simp
        · rw [e, decide_eq_true (show (2 * (F : Int) + 1) % 2 = 1 by omega)]; simp
      · left
        unfold mRt
        rw [if_neg (by omega), if_neg (by omega)]
        omega
  refine seqB_bis hcmp (P := fun s => relRet c g s.1 s.2) ⟨?_, ?_, ?_⟩
  · show relRet c g 0 0
    unfold relRet
    rw [bitsV_zero, bitsV_zero, List.replicate_succ']
    congr 2
    have e0 : ∀ l, litS c 0 l = decide (l % 2 = 1) := fun l => by
      unfold litS
      rw [bitsV_zero, getD_rep]
      simp
    rw [e0, e0]
    rcases (show g.a % 2 = 0 ∨ g.a % 2 = 1 by omega) with e | e <;> rcases (show g.b % 2 = 0 ∨ g.b % 2 = 1 by omega) with e' | e' <;> rw [e, e'] <;> rfl
  · rintro ⟨s, u⟩ hr x hx
    rw [hitD_iff hxo]
    simp only at hr ⊢
    have eo : (retG c i g).outs = c.outs.map (retF F i t) := by rw [eX]
    rw [eo, List.map_map]
    apply List.map_congr_left
    intro l hl
    have h1 := hv.outs l hl
    rw [cV] at h1
    unfold litP at h1
    exact (vals s u x hr l (by omega) (by omega)).symm
  · rintro ⟨s, u⟩ hr x hx
    simp only at hr
    show relRet c g (nextN c s x) (nextN (retG c i g) u x)
    unfold relRet
    have e1 := nextN_bits (retG c i g) u x
    rw [hxn] at e1
    rw [e1, nextN_bits c s x]
    have en : (retG c i g).next = c.next.map (retF F i t) ++ [2 * ((F : Int) + 1 + c.gates.length) + t] := by rw [eX]
    rw [en, List.map_append, List.map_map]
    congr 1
    · apply List.map_congr_left
      intro l hl
      have h1 := hv.next l hl
      rw [cV] at h1
      unfold litP at h1
      exact vals s u x hr l (by omega) (by omega)
    · simp only [List.map_cons, List.map_nil]
      congr 1
      have hbl : (bC (retG c i g) u x).length = F + 1 := by rw [bC_length, hxi, hxn]; omega
      have hlast : (retG c i g).gates[c.gates.length]? = some ⟨retF F i t (xr ((c.next[(g.a / 2 - 1 - c.inp).toNat]?).getD 0) (g.a % 2)), retF F i t (xr ((c.next[(g.b / 2 - 1 - c.inp).toNat]?).getD 0) (g.b % 2))⟩ := by
        rw [eX]
        simp only
        rw [List.getElem?_append_right (by simp [mapG])]
        simp [mapG]
      have hgv := vN_gate hbl hgX hlast
      simp only at hgv
      have nx : ∀ l, latchLit c l → litB (vN (bC (retG c i g) u x) (retG c i g).gates) (retF F i t (xr ((c.next[(l / 2 - 1 - c.inp).toNat]?).getD 0) (l % 2))) = litS c (nextN c s x) l := fun l hl => by
        have hl2 := hl
        unfold latchLit at hl2
        obtain ⟨y, hy⟩ : ∃ y, c.next[(l / 2 - 1 - c.inp).toNat]? = some y := get_of_lt (by omega)
        have hyl := hv.next y (List.mem_of_getElem? hy)
        rw [cV] at hyl
        unfold litP at hyl
        rw [hy, Option.getD_some, ← cycV_vN, vals s u x hr _ (by unfold xr; omega) (by unfold xr; omega), xr_xrb, litB_xrb (by omega)]
        unfold litS
        rw [nextN_bits, List.getD_eq_getElem?_getD, List.getElem?_map, hy]
        rfl
      rw [nx _ la, nx _ lb] at hgv
      rw [cycV_vN, litB_def', show ((2 * ((F : Int) + 1 + c.gates.length) + t) / 2).toNat = F + 1 + c.gates.length by omega, hgv]
      rw [← ht]
      congr 1
      rcases ht2 with e | e
      · rw [e]; simp
      · rw [e]; simp

end Go.Proofs.Ytbcolcchchgldaa
