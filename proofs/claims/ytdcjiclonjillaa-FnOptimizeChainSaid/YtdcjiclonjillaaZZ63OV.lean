import Derived.Test.YtdcjiclonjillaaZZ63RB
import Derived.Test.YtdcjiclonjillaaZZ63RG
import Derived.Test.YtdcjiclonjillaaZZ63V8
import Derived.Test.YtdcjiclonjillaaZZ63OH
import Derived.Test.YtdcjiclonjillaaZZ63OS
namespace Go.Proofs.Ytdcjiclonjillaa
set_option linter.unusedVariables false
set_option linter.unusedSimpArgs false
open Go.RowKit

/-! Part of the proof of one law. -/

theorem markU_off {F : Int} {u : List Bool} {l : Int} {i : Nat} (h : u.getD i false = false) (hl : l / 2 ≠ F + i) (h0 : 0 ≤ l) : (markU F u l).getD i false = false := by
  unfold markU
  split
  · rename_i hF
    rw [List.getD_eq_getElem?_getD, List.getElem?_set_ne (by omega), ← List.getD_eq_getElem?_getD]
    exact h
  · exact h

theorem used_off {c : Cir} {i : Nat} (hg : ∀ g ∈ c.gates, (0 ≤ g.a ∧ g.a / 2 ≠ c.first + i) ∧ 0 ≤ g.b ∧ g.b / 2 ≠ c.first + i) (hr : ∀ l ∈ c.outs ++ c.next, 0 ≤ l ∧ l / 2 ≠ c.first + i) : (usedL c).getD i false = false := by
  have h0 : ∀ (rs : List Int), (∀ l ∈ rs, 0 ≤ l ∧ l / 2 ≠ c.first + i) → ∀ u : List Bool, u.getD i false = false → (rs.foldl (markU c.first) u).getD i false = false := by
    intro rs
    induction rs with
    | nil => intro _ u hu; exact hu
    | cons r rs ih =>
      intro hrs u hu
      exact ih (fun l hl => hrs l (by simp [hl])) _ (markU_off hu (hrs r (by simp)).2 (hrs r (by simp)).1)
  have h1 : ∀ (k : Nat) (u : List Bool), u.getD i false = false → (usedK c.first c.gates k u).getD i false = false := by
    intro k
    induction k with
    | zero => intro u hu; exact hu
    | succ k ih =>
      intro u hu
      refine ih _ ?_
      unfold usedS
      split
      · rename_i g hgk
        have := hg g (List.mem_of_getElem? hgk)
        split
        · exact markU_off (markU_off hu this.1.2 this.1.1) this.2.2 this.2.1
        · exact hu
      · exact hu
  unfold usedL
  refine h1 _ _ ?_
  unfold used0
  refine h0 _ hr _ ?_
  rw [List.getD_eq_getElem?_getD]
  cases h : (List.replicate c.gates.length false)[i]? with
  | none => rfl
  | some x => have := List.mem_of_getElem? h; rw [List.mem_replicate] at this; rw [this.2]; rfl

/-- How many gates of the first k are used. -/
def cntU (c : Cir) : Nat → Nat
  | 0 => 0
  | k + 1 => cntU c k + (if (usedL c).getD k false then 1 else 0)

theorem cntU_le (c : Cir) : ∀ k, cntU c k ≤ k
  | 0 => Nat.le_refl _
  | k + 1 => by have := cntU_le c k; unfold cntU; split <;> omega

theorem cntU_lt (c : Cir) {i : Nat} (h : (usedL c).getD i false = false) : ∀ k, i < k → cntU c k < k
  | 0, hk => by omega
  | k + 1, hk => by
    have := cntU_le c k
    unfold cntU
    by_cases e : i = k
    · subst e; rw [h]; simp; omega
    · have := cntU_lt c h k (by omega)
      split <;> omega

theorem andL_len (F : Int) (gs : List Gt) (a b : Int) : (andL F gs a b).1.length ≤ gs.length + 1 := by
  have hk : ∀ a b, (andK F gs a b).1.length ≤ gs.length + 1 := fun a b => by
    unfold andK
    split
    · simp
    · split
      · simp
      · split <;> simp
  unfold andL
  split <;> exact hk _ _

theorem bldP_cnt (c : Cir) (sh : Bool) : ∀ k, (bldP c sh k).1.length ≤ cntU c k
  | 0 => by simp [bldP]
  | k + 1 => by
    have ih := bldP_cnt c sh k
    cases h : c.gates[k]? with
    | none =>
      have e : bldP c sh (k + 1) = bldP c sh k := by
        show (match c.gates[k]? with | some g => _ | none => _) = _
        rw [h]
      rw [e]; unfold cntU; omega
    | some g =>
      rw [bldP_succ h]
      unfold bStep cntU
      split
      · split
        · have := andL_len c.first (bldP c sh k).1 (mapB (bldP c sh k).2 g.a) (mapB (bldP c sh k).2 g.b)
          show (andL _ _ _ _).1.length ≤ _
          omega
        · simp; omega
      · simpa using ih

theorem buildC_len (sh : Bool) (c : Cir) : (buildC sh c).gates.length ≤ cntU c c.gates.length := bldP_cnt c sh _

theorem optC_len (c : Cir) : (optC c).gates.length ≤ cntU c c.gates.length := by
  have h1 := buildC_len false (buildC true c)
  have h2 := cntU_le (buildC true c) (buildC true c).gates.length
  have h3 := buildC_len true c
  show (buildC false (buildC true c)).gates.length ≤ _
  omega

theorem optC_len_le (c : Cir) : (optC c).gates.length ≤ c.gates.length := Nat.le_trans (optC_len c) (cntU_le c _)

theorem ptrC_any (inp : Int) (sn sg so : Option Addr) (nn cn ng cg no co : Nat) (w : World) :
    Calls Try.prog 35 #[.agg #[.int .i64 inp, .slice sn nn cn, .slice sg ng cg, .slice so no co]] w fun e w' => e = .returned (.pointer (some ⟨w.heap.size, 0, none⟩)) ∧ w' = w.alloc (.cells #[.int .i64 inp, .slice sn nn cn, .slice sg ng cg, .slice so no co] 28) := by
  go_enter Try.func35, Try.ntmps35
  go_wp2_with fail
  go_ret
  exact ⟨rfl, rfl⟩

/-! Fewer gates after each step. -/

theorem forceL_off {p l : Int} {val : Bool} (h0 : 0 ≤ l) (hp : 1 ≤ p) : 0 ≤ forceL p val l ∧ forceL p val l / 2 ≠ p := by
  unfold forceL
  split
  · cases val <;> simp <;> omega
  · omega

theorem fstU_lt {c : Cir} {k : Nat} {val : Bool} (h : fstU c = some (k, val)) : k < c.gates.length := frstU_lt h

theorem step_len {c : Cir} (hv : c.valid) {k : Nat} {val : Bool} (h : fstU c = some (k, val)) : (optC (c.mapC (forceL ((c.first.toNat + k : Nat) : Int) val))).gates.length < c.gates.length := by
  have hk := fstU_lt h
  have hl := hv.lim.1
  have e1 : c.first = 1 + c.inp + c.next.length := rfl
  have e2 : (c.mapC (forceL ((c.first.toNat + k : Nat) : Int) val)).first = c.first := by unfold Cir.first Cir.mapC; simp
  have e3 : (c.mapC (forceL ((c.first.toNat + k : Nat) : Int) val)).gates.length = c.gates.length := by simp [Cir.mapC, mapG]
  have hg : ∀ g ∈ c.gates, 0 ≤ g.a ∧ 0 ≤ g.b := fun g hg => by
    obtain ⟨i, hi⟩ := List.mem_iff_getElem?.1 hg
    have := gatesP_at hv.gates hi
    exact ⟨this.1.1, this.2.1⟩
  have hu : (usedL (c.mapC (forceL ((c.first.toNat + k : Nat) : Int) val))).getD k false = false := by
    have e4 : c.first + (k : Int) = ((c.first.toNat + k : Nat) : Int) := by omega
    refine used_off ?_ ?_
    · intro g hgm
      rw [e2, e4]
      obtain ⟨g0, hg0, rfl⟩ := List.mem_map.1 (show g ∈ c.gates.map (fun g => ⟨forceL ((c.first.toNat + k : Nat) : Int) val g.a, forceL ((c.first.toNat + k : Nat) : Int) val g.b⟩) from hgm)
      exact ⟨forceL_off (hg g0 hg0).1 (by omega), forceL_off (hg g0 hg0).2 (by omega)⟩
    · intro l hl
      rw [e2, e4]
      rcases List.mem_append.1 hl with hl | hl
      · obtain ⟨l0, hl0, rfl⟩ := List.mem_map.1 (show l ∈ c.outs.map _ from hl)
        exact forceL_off (hv.outs l0 hl0).1 (by omega)
      · obtain ⟨l0, hl0, rfl⟩ := List.mem_map.1 (show l ∈ c.next.map _ from hl)
        exact forceL_off (hv.next l0 hl0).1 (by omega)
  have h1 := optC_len (c.mapC (forceL ((c.first.toNat + k : Nat) : Int) val))
  have h2 := cntU_lt _ hu (c.mapC (forceL ((c.first.toNat + k : Nat) : Int) val)).gates.length (by rw [e3]; exact hk)
  omega

theorem forceL_leU {p : Int} {val : Bool} {l : Int} (hp : 0 ≤ p) (h0 : 0 ≤ l) : 0 ≤ forceL p val l ∧ forceL p val l / 2 ≤ l / 2 := by
  unfold forceL
  by_cases e : l / 2 = p
  · rw [if_pos e]; cases val <;> simp <;> omega
  · rw [if_neg e]; omega

theorem mapC_validU {c : Cir} {p : Int} {val : Bool} (hv : c.valid) (hp : 0 ≤ p) : (c.mapC (forceL p val)).valid := by
  have eV : (c.mapC (forceL p val)).vars = c.vars := by simp [Cir.vars, Cir.mapC, mapG]
  have eF : (c.mapC (forceL p val)).first = c.first := by simp [Cir.first, Cir.mapC]
  obtain ⟨q1, q2, q3, q4, q5⟩ := hv.lim
  have key : ∀ {l b : Int}, litP l b → litP (forceL p val l) b := fun {l b} h => by
    obtain ⟨h0, h1⟩ := h
    have := forceL_leU (val := val) hp h0
    unfold litP; omega
  refine ⟨⟨q1, q2, ?_, ?_, ?_⟩, ?_, ?_, ?_⟩
  · simpa [Cir.mapC] using q3
  · simpa [Cir.mapC, mapG] using q4
  · simpa [Cir.mapC] using q5
  · rw [eF]
    intro i h
    have hi : i < c.gates.length := by simpa [Cir.mapC, mapG] using h
    have := hv.gates i hi
    simp only [Cir.mapC, mapG, List.getElem_map]
    exact ⟨key this.1, key this.2⟩
  · rw [eV]
    intro x hx
    simp only [Cir.mapC, List.mem_map] at hx
    obtain ⟨y, hy, rfl⟩ := hx
    exact key (hv.next y hy)
  · rw [eV]
    intro x hx
    simp only [Cir.mapC, List.mem_map] at hx
    obtain ⟨y, hy, rfl⟩ := hx
    exact key (hv.outs y hy)

theorem stepR_some {c : Cir} (hv : c.valid) (h : (fstU c).isSome = true) : (stepR c).valid ∧ (stepR c).gates.length < c.gates.length := by
  obtain ⟨⟨k, val⟩, hk⟩ := Option.isSome_iff_exists.1 h
  have hm : (c.mapC (forceL ((c.first.toNat + k : Nat) : Int) val)).valid := mapC_validU hv (by omega)
  have e : stepR c = optC (c.mapC (forceL ((c.first.toNat + k : Nat) : Int) val)) := by
    unfold stepR
    rw [hk]
    exact optR_yes ((Cir.validB_iff _).2 hm)
  rw [e]
  exact ⟨optC_valid hm, step_len hv hk⟩

theorem stepR_none {c : Cir} (h : (fstU c).isSome = false) : stepR c = c := by
  have : fstU c = none := by simpa using h
  unfold stepR
  rw [this]

/-- All steps. -/
def stepsR : Nat → Cir → Cir
  | 0, c => c
  | n + 1, c => stepsR n (stepR c)

theorem stepsR_fix {c : Cir} (h : (fstU c).isSome = false) : ∀ n, stepsR n c = c
  | 0 => rfl
  | n + 1 => by unfold stepsR; rw [stepR_none h, stepsR_fix h n]

/-- The steps end with a circuit that has no redundant gate. -/
def remR (c : Cir) : Cir := if c.validB then stepsR 15 (optC c) else ⟨0, [], [], []⟩

theorem stepsR_go {c : Cir} (hv : c.valid) : ∀ n m, c.gates.length ≤ n → c.gates.length ≤ m → stepsR n c = stepsR m c := by
  have : ∀ (k : Nat) (c : Cir), c.valid → c.gates.length ≤ k → ∀ n m, c.gates.length ≤ n → c.gates.length ≤ m → stepsR n c = stepsR m c := by
    intro k
    induction k with
    | zero =>
      intro c hv hk n m _ _
      have hf : (fstU c).isSome = false := by
        cases h : (fstU c).isSome with
        | false => rfl
        | true => have := (stepR_some hv h).2; omega
      rw [stepsR_fix hf, stepsR_fix hf]
    | succ k ih =>
      intro c hv hk n m hn hm
      cases h : (fstU c).isSome with
      | false => rw [stepsR_fix h, stepsR_fix h]
      | true =>
        obtain ⟨h1, h2⟩ := stepR_some hv h
        obtain ⟨n', rfl⟩ : ∃ n', n = n' + 1 := ⟨n - 1, by omega⟩
        obtain ⟨m', rfl⟩ : ∃ m', m = m' + 1 := ⟨m - 1, by omega⟩
        exact ih (stepR c) h1 (by omega) n' m' (by omega) (by omega)
  exact fun n m hn hm => this c.gates.length c hv (Nat.le_refl _) n m hn hm

theorem stepsR_step {c : Cir} (hv : c.valid) (h : (fstU c).isSome = true) : stepsR 15 (stepR c) = stepsR 15 c := by
  obtain ⟨h1, h2⟩ := stepR_some hv h
  have h3 := hv.lim.2.2.2.1
  show _ = stepsR 14 (stepR c)
  exact stepsR_go h1 _ _ (by omega) (by omega)

theorem remR_no {c : Cir} (h : c.validB = false) : remR c = ⟨0, [], [], []⟩ := by unfold remR; rw [if_neg (by simp [h])]

theorem remR_yes {c : Cir} (h : c.validB = true) : remR c = stepsR 15 (optC c) := by unfold remR; rw [if_pos h]

theorem stepsR_valid : ∀ (n : Nat) {c : Cir}, c.valid → (stepsR n c).valid ∧ (stepsR n c).gates.length ≤ c.gates.length
  | 0, c, hv => ⟨hv, Nat.le_refl _⟩
  | n + 1, c, hv => by
    cases h : (fstU c).isSome with
    | false => rw [stepsR_fix h]; exact ⟨hv, Nat.le_refl _⟩
    | true =>
      obtain ⟨h1, h2⟩ := stepR_some hv h
      have := stepsR_valid n h1
      exact ⟨this.1, by show (stepsR n (stepR c)).gates.length ≤ _; omega⟩

/-- What is used, is used by something. -/
theorem used_by {c : Cir} (hv : c.valid) {i : Nat} (hu : (usedL c).getD i false = true) : (∃ g ∈ c.gates, g.a / 2 = c.first + i ∨ g.b / 2 = c.first + i) ∨ ∃ l ∈ c.outs ++ c.next, l / 2 = c.first + i := by
  refine Classical.byContradiction fun hn => ?_
  have h1 : ∀ g ∈ c.gates, (0 ≤ g.a ∧ g.a / 2 ≠ c.first + i) ∧ 0 ≤ g.b ∧ g.b / 2 ≠ c.first + i := fun g hg => by
    obtain ⟨k, hk⟩ := List.getElem?_of_mem hg
    have hp := gatesP_at hv.gates hk
    exact ⟨⟨hp.1.1, fun e => hn (.inl ⟨g, hg, .inl e⟩)⟩, hp.2.1, fun e => hn (.inl ⟨g, hg, .inr e⟩)⟩
  have h2 : ∀ l ∈ c.outs ++ c.next, 0 ≤ l ∧ l / 2 ≠ c.first + i := fun l hl => by
    have hp : litP l c.vars := by
      rcases List.mem_append.1 hl with h | h
      · exact hv.outs l h
      · exact hv.next l h
    exact ⟨hp.1, fun e => hn (.inr ⟨l, hl, e⟩)⟩
  have := used_off h1 h2
  rw [hu] at this
  cases this

/-- Bit j of an assignment is variable 1 + j. -/
theorem asgV_get {c : Cir} (hv : c.valid) (x : Nat) {j : Nat} (hj : j < c.inp.toNat + c.next.length) : (asgV c (x : Int)).getD (j + 1) false = decide (((x / 2 ^ j : Nat) : Int) % 2 = 1) := by
  unfold asgV
  rw [List.getD_eq_getElem?_getD, List.getElem?_cons_succ]
  by_cases h : j < c.inp.toNat
  · rw [List.getElem?_append_left (by rw [bitsV_length]; exact h)]
    unfold bitsV
    rw [List.getElem?_map, List.getElem?_range h]
    show decide ((x : Int) / 2 ^ j % 2 = 1) = _
    rw [show ((x / 2 ^ j : Nat) : Int) = (x : Int) / 2 ^ j by simp]
  · rw [List.getElem?_append_right (by rw [bitsV_length]; omega), bitsV_length]
    unfold bitsV
    rw [List.getElem?_map, List.getElem?_range (by omega)]
    show decide ((x : Int) / 2 ^ c.inp.toNat / 2 ^ (j - c.inp.toNat) % 2 = 1) = _
    rw [Int.ediv_ediv_of_nonneg (by exact Int.pow_nonneg (by omega)), ← Int.pow_add, show c.inp.toNat + (j - c.inp.toNat) = j by omega, show ((x / 2 ^ j : Nat) : Int) = (x : Int) / 2 ^ j by simp]

theorem colV_base {c : Cir} (x : Nat) {v : Nat} (h : v < 1 + c.inp.toNat + c.next.length) : colV c v x = (asgV c (x : Int)).getD v false := by
  unfold colV
  rw [evalV_vN]
  obtain ⟨r, hr⟩ := vN_base (asgV c (x : Int)) c.gates
  rw [hr]
  simp only [List.getD_eq_getElem?_getD]
  rw [List.getElem?_append_left (by rw [asgV_length]; exact h)]

theorem base_diff {c : Cir} (hv : c.valid) {p q : Nat} (hq : q < p) (hp : p < 1 + c.inp.toNat + c.next.length) : sameV c p q = 0 := by
  obtain ⟨j, rfl⟩ : ∃ j, p = j + 1 := ⟨p - 1, by omega⟩
  have hj : j < c.inp.toNat + c.next.length := by omega
  refine sameV_zero.2 ⟨⟨2 ^ j, by unfold asgN; exact Nat.pow_lt_pow_right (by omega) hj, ?_⟩, 0, asgN_pos c, ?_⟩
  · rw [colV_base _ hp, colV_base _ (by omega), asgV_get hv _ hj, Nat.div_self (Nat.pow_pos (by omega))]
    cases q with
    | zero => show decide (((1 : Nat) : Int) % 2 = 1) ≠ false; simp
    | succ k =>
      rw [asgV_get hv _ (by omega), show j = k + (j - k) by omega, Nat.pow_add, Nat.mul_div_cancel_left _ (Nat.pow_pos (by omega)), show j - k = (j - k - 1) + 1 by omega, Nat.pow_succ]
      simp
  · rw [colV_base _ hp, colV_base _ (by omega), asgV_get hv _ hj]
    cases q with
    | zero => show _ = false; simp
    | succ k => rw [asgV_get hv _ (by omega)]; simp

/-- A gate that is used in the merged circuit is the first one with its function. -/
theorem used_rep {o : Cir} (hv : o.valid) {i : Nat} (hu : (usedL (swpM o)).getD i false = true) : ∀ w, w < o.first.toNat + i → sameV o (o.first.toNat + i) w = 0 := by
  have h0 := hv.lim.1
  have eF : o.first = 1 + o.inp + o.next.length := rfl
  have eF' : (swpM o).first = o.first := by unfold swpM Cir.first Cir.mapC; simp
  have key : ∀ l : Int, swpL o l / 2 = o.first + i → ∀ w, w < o.first.toNat + i → sameV o (o.first.toNat + i) w = 0 := fun l hl => by
    obtain ⟨u, -, hr, hn, -⟩ := repV_spec o (l / 2).toNat
    have e : swpL o l / 2 = u := by
      unfold swpL
      rw [xrb_half]
      rcases hr with hr | hr <;> rw [hr] <;> omega
    obtain rfl : u = o.first.toNat + i := by omega
    exact hn
  rcases used_by (swpM_valid hv) hu with ⟨g, hg, h⟩ | ⟨l, hl, h⟩
  · rw [eF'] at h
    obtain ⟨g0, hg0, rfl⟩ := List.mem_map.1 (show g ∈ o.gates.map fun g => (⟨swpL o g.a, swpL o g.b⟩ : Gt) from hg)
    rcases h with h | h
    · exact key _ h
    · exact key _ h
  · rw [eF'] at h
    have : l ∈ (o.outs ++ o.next).map (swpL o) := by rw [List.map_append]; exact hl
    obtain ⟨l0, -, rfl⟩ := List.mem_map.1 this
    exact key _ h

/-- Variables of a rebuilt circuit are variables of the circuit: the i-th used. -/
theorem buildC_col {c : Cir} {F : Nat} (hF : c.first = F) (hv : c.valid) (sh : Bool) : ∃ ψ : Nat → Nat, (∀ v, v < F → ψ v = v) ∧ (∀ v, F ≤ v → v < F + (buildC sh c).gates.length → F ≤ ψ v ∧ ψ v < F + c.gates.length ∧ (usedL c).getD (ψ v - F) false = true) ∧
    (∀ u v, u < v → v < F + (buildC sh c).gates.length → ψ u < ψ v) ∧ ∀ v, v < F + (buildC sh c).gates.length → ∀ x : Nat, colV (buildC sh c) v x = colV c (ψ v) x := by
  obtain ⟨φ, hφ⟩ := bldP_src hF hv sh c.gates.length (Nat.le_refl _)
  have hlen : (buildC sh c).gates.length = φ.length := hφ.len.symm
  have h0 := hv.lim.1
  have eF : c.first = 1 + c.inp + c.next.length := rfl
  have hget : ∀ v, F ≤ v → v < F + φ.length → φ[v - F]? = some (φ.getD (v - F) 0) := fun v h1 h2 => by
    obtain ⟨y, hy⟩ := get_of_lt (l := φ) (k := v - F) (by omega)
    rw [List.getD_eq_getElem?_getD, hy]; rfl
  refine ⟨fun v => if v < F then v else F + φ.getD (v - F) 0, fun v h => if_pos h, fun v h1 h2 => ?_, fun u v huv h2 => ?_, fun v h2 x => ?_⟩
  · rw [hlen] at h2
    dsimp only
    rw [if_neg (by omega)]
    have := hφ.used _ (List.mem_of_getElem? (hget v h1 h2))
    exact ⟨by omega, by omega, by rw [Nat.add_sub_cancel_left]; exact this.2⟩
  · rw [hlen] at h2
    dsimp only
    by_cases hv1 : v < F
    · rw [if_pos hv1, if_pos (by omega)]; exact huv
    · rw [if_neg hv1]
      by_cases hu1 : u < F
      · rw [if_pos hu1]; omega
      · rw [if_neg hu1]
        have a1 := hget v (by omega) h2
        have a2 := hget u (by omega) (by omega)
        obtain ⟨b1, e1⟩ := List.getElem?_eq_some_iff.1 a1
        obtain ⟨b2, e2⟩ := List.getElem?_eq_some_iff.1 a2
        have := List.pairwise_iff_getElem.1 hφ.inc (u - F) (v - F) b2 b1 (by omega)
        rw [e1, e2] at this
        omega
  · rw [hlen] at h2
    dsimp only
    have ea : asgV (buildC sh c) (x : Int) = asgV c (x : Int) := by unfold asgV buildC; simp
    have hb := asgV_Bs (Cir.valid.wide hv) (x : Int)
    rw [hF, Int.toNat_natCast] at hb
    unfold colV
    rw [evalV_vN, evalV_vN, ea]
    by_cases hv1 : v < F
    · rw [if_pos hv1]
      obtain ⟨r1, e1⟩ := vN_base (asgV c (x : Int)) (buildC sh c).gates
      obtain ⟨r2, e2⟩ := vN_base (asgV c (x : Int)) c.gates
      rw [e1, e2]
      simp only [List.getD_eq_getElem?_getD]
      rw [List.getElem?_append_left (by rw [hb.len]; exact hv1), List.getElem?_append_left (by rw [hb.len]; exact hv1)]
    · rw [if_neg hv1]
      have := hφ.val _ hb (v - F) _ (hget v (by omega) h2)
      rw [show F + (v - F) = v by omega] at this
      exact this

theorem sameV_congr {c d : Cir} {p q p' q' : Nat} (hN : asgN c = asgN d) (hp : ∀ x : Nat, x < asgN d → colV c p x = colV d p' x) (hq : ∀ x : Nat, x < asgN d → colV c q x = colV d q' x) : sameV c p q = sameV d p' q' := by
  rcases sameV_tri d p' q' with h | h | h
  · rw [h]; exact sameV_one.2 fun x hx => by rw [hN] at hx; rw [hp x hx, hq x hx]; exact sameV_one.1 h x hx
  · rw [h]; exact sameV_neg.2 fun x hx => by rw [hN] at hx; rw [hp x hx, hq x hx]; exact sameV_neg.1 h x hx
  · rw [h]
    obtain ⟨⟨x, hx, h1⟩, y, hy, h2⟩ := sameV_zero.1 h
    exact sameV_zero.2 ⟨⟨x, by rw [hN]; exact hx, by rw [hp x hx, hq x hx]; exact h1⟩, y, by rw [hN]; exact hy, by rw [hp y hy, hq y hy]; exact h2⟩

/-- No two variables of a swept circuit have the same or opposite functions. -/
theorem sweepC_diff {c : Cir} (hc : c.valid) {p q : Nat} (hq : q < p) (hp : (p : Int) < (sweepC c).vars) : sameV (sweepC c) p q = 0 := by
  obtain ⟨o, ho⟩ : ∃ o, o = optC c := ⟨_, rfl⟩
  have hv : o.valid := by rw [ho]; exact optC_valid hc
  obtain ⟨F, hF⟩ : ∃ F : Nat, o.first = F := ⟨o.first.toNat, by have := hv.lim.1; unfold Cir.first; omega⟩
  have hF1 : (swpM o).first = F := by rw [← hF]; unfold swpM Cir.first Cir.mapC; simp
  have hy := swpM_valid hv
  have hF2 : (buildC true (swpM o)).first = F := by rw [← hF1]; unfold Cir.first buildC; simp
  have hF3 : (sweepC c).first = F := by rw [← hF2]; unfold sweepC optC; rw [ho]; unfold Cir.first buildC; simp [optC, buildC]
  have es : sweepC c = buildC false (buildC true (swpM o)) := by unfold sweepC; rw [ho]; rfl
  have eV : (sweepC c).vars = (F : Int) + ((sweepC c).gates.length : Int) := by rw [← hF3]; rfl
  rw [eV] at hp
  rw [es] at hp ⊢
  obtain ⟨ψ2, a1, a2, a3, a4⟩ := buildC_col hF2 (buildC_valid hy true) false
  obtain ⟨ψ1, b1, b2, b3, b4⟩ := buildC_col hF1 hy true
  have hp' : p < F + (buildC false (buildC true (swpM o))).gates.length := by omega
  have hps : ∀ v, v < F + (buildC false (buildC true (swpM o))).gates.length → ψ2 v < F + (buildC true (swpM o)).gates.length := fun v hv => by
    by_cases h : v < F
    · rw [a1 v h]; omega
    · exact (a2 v (by omega) hv).2.1
  have hN : asgN (buildC false (buildC true (swpM o))) = asgN o := by rw [asgN_buildC, asgN_buildC]; unfold swpM; rw [asgN_mapC]
  have hcol : ∀ v, v < F + (buildC false (buildC true (swpM o))).gates.length → ∀ x : Nat, x < asgN o → colV (buildC false (buildC true (swpM o))) v x = colV o (ψ1 (ψ2 v)) x := fun v hv1 x hx => by
    rw [a4 v hv1 x, b4 _ (hps v hv1) x]
    unfold colV
    rw [swpM_evalV hv hx]
  rw [sameV_congr hN (hcol p hp') (hcol q (by omega))]
  have h2 := a3 q p hq hp'
  have h1 := b3 _ _ h2 (hps p hp')
  have eF : o.first = 1 + o.inp + o.next.length := rfl
  have h0 := hv.lim.1
  by_cases e : p < F
  · rw [a1 p e, b1 p e] at h1 ⊢
    exact base_diff hv h1 (by omega)
  · obtain ⟨c1, c2, c3⟩ := a2 p (by omega) hp'
    obtain ⟨d1, d2, d3⟩ := b2 _ c1 c2
    have := used_rep hv d3
    rw [hF, Int.toNat_natCast, show F + (ψ1 (ψ2 p) - F) = ψ1 (ψ2 p) by omega] at this
    exact this _ h1

theorem sweepC_len {c : Cir} (hc : c.valid) : (sweepC c).gates.length ≤ (optC c).gates.length := by
  have := optC_len_le (swpM (optC c))
  unfold sweepC
  refine Nat.le_trans this ?_
  unfold swpM Cir.mapC
  simp [mapG_length]

/-! What the laws of Sweep and of removal say, of the plain functions. -/

theorem optC_if (c : Cir) : (optC c).inp = c.inp ∧ (optC c).next.length = c.next.length ∧ (optC c).outs.length = c.outs.length := by
  unfold optC buildC
  exact ⟨rfl, by simp, by simp⟩

theorem mapC_if (f : Int → Int) (c : Cir) : (c.mapC f).inp = c.inp ∧ (c.mapC f).next.length = c.next.length ∧ (c.mapC f).outs.length = c.outs.length := by
  unfold Cir.mapC
  exact ⟨rfl, by simp, by simp⟩

theorem sweepC_if (c : Cir) : (sweepC c).inp = c.inp ∧ (sweepC c).next.length = c.next.length ∧ (sweepC c).outs.length = c.outs.length := by
  obtain ⟨a1, a2, a3⟩ := optC_if (swpM (optC c))
  obtain ⟨b1, b2, b3⟩ := mapC_if (swpL (optC c)) (optC c)
  obtain ⟨d1, d2, d3⟩ := optC_if c
  unfold sweepC
  refine ⟨a1.trans (b1.trans d1), ?_, ?_⟩
  · rw [a2]; unfold swpM; rw [b2, d2]
  · rw [a3]; unfold swpM; rw [b3, d3]

theorem equivB_mk {a b : Cir} (ha : a.valid) (hb : b.valid) (hi : b.inp = a.inp ∧ b.next.length = a.next.length ∧ b.outs.length = a.outs.length) (h : ∀ x : Nat, x < asgN a → resV b (x : Int) (-1) false = resV a (x : Int) (-1) false) : equivB a b = true :=
  equivB_iff.2 ⟨sifB_iff.2 ⟨(Cir.validB_iff _).2 ha, (Cir.validB_iff _).2 hb, hi.1.symm, hi.2.1.symm, hi.2.2.symm⟩, fun x hx => (h x hx).symm⟩

structure SweepSays (c d o : Cir) : Prop where
  ok : d.validB = true
  eqv : equivB c d = true
  len : d.gates.length ≤ o.gates.length
  diff : ∀ p q : Nat, q < p → (p : Int) < d.vars → sfR d p q = 0

theorem sweepR_says {c : Cir} (hv : c.validB = true) : SweepSays c (sweepR c) (optR c) := by
  have hc := c.validB_iff.1 hv
  have hs := sweepC_valid hc
  rw [sweepR_yes hv, optR_yes hv]
  refine ⟨(Cir.validB_iff _).2 hs, equivB_mk hc hs (sweepC_if c) (fun x hx => sweepC_res hc hx), sweepC_len hc, fun p q hq hp => ?_⟩
  by_cases h : sfOk (sweepC c) p q
  · rw [sfR_yes h, Int.toNat_natCast, Int.toNat_natCast]
    exact sweepC_diff hc hq hp
  · exact sfR_no h

set_option maxRecDepth 100000 in
set_option maxHeartbeats 1600000 in
theorem RemoveRedundancy_i (v : Value) (c : Cir) (w : World) (h : CirV w v c) :
    Calls Try.prog 26 #[v] w fun e w' => ∃ vn vg vo, e = .returned (.agg #[.int .i64 (remR c).inp, vn, vg, vo]) ∧ CirOwn w' w.heap.size (remR c) vn vg vo ∧ Below w.heap.size w w' := by
  have HG := Lib.hid h
  obtain ⟨sn, cn, sg, cg, so, co, rfl, -, -, -, -, -, -⟩ := h
  obtain ⟨W0, hW0⟩ : ∃ W0, W0 = (w.alloc (.cells #[.int .i64 c.inp, .slice sn c.next.length cn, .slice sg c.gates.length cg, .slice so c.outs.length co] 28)).alloc (.cells #[.int .i64 0, .slice none 0 0, .slice none 0 0, .slice none 0 0] 28) := ⟨_, rfl⟩
  obtain ⟨A, hA⟩ : ∃ A, A = w.heap.size := ⟨_, rfl⟩
  have z1 : W0.heap.size = A + 2 := by rw [hW0, hA]; simp
  have z2 : W0.heap[A]? = some (.cells #[.int .i64 c.inp, .slice sn c.next.length cn, .slice sg c.gates.length cg, .slice so c.outs.length co] 28 (0, 0)) := by rw [hW0, hA]; exact blk_old (blk_new w _)
  have z3 : W0.heap[A + 1]? = some (.cells #[.int .i64 0, .slice none 0 0, .slice none 0 0, .slice none 0 0] 28 (0, 0)) := by rw [hW0, hA]; exact blk_at (by simp)
  have z4 : Below w.heap.size w W0 := by rw [hW0]; exact ((Below.refl _ _).alloc (Nat.le_refl _) _).alloc (by simp) _
  have HW := Lib.hid (And.intro hW0 (And.intro hA z1))
  have HB : Hid (∀ W, Below W0.heap.size W0 W → (∀ o, W.cell? ⟨A, o, none⟩ = #[Value.int .i64 c.inp, .slice sn c.next.length cn, .slice sg c.gates.length cg, .slice so c.outs.length co][o]?) ∧ W.heap[A + 1]? = some (.cells #[.int .i64 0, .slice none 0 0, .slice none 0 0, .slice none 0 0] 28 (0, 0)) ∧ CirV W (.agg #[.int .i64 c.inp, .slice sn c.next.length cn, .slice sg c.gates.length cg, .slice so c.outs.length co]) c ∧ Below w.heap.size w W) := fun W hW => ⟨(blk_all (blk_below hW (by omega) z2)).1, blk_below hW (by omega) z3, HG.out.mono (z4.trans (hW.mono z4.size)), z4.trans (hW.mono z4.size)⟩
  clear hW0 hA z1 z2 z3 z4
  cases hv : c.validB
  · rw [remR_no hv]
    have HV := Lib.hid hv
    clear hv
    go_enter Try.func26, Try.ntmps26
    go_upto_region 1 with fail
    rw [← HW.out.1, ← HW.out.2.1]
    have cb := (HB.out _ (Below.refl _ _)).1
    go_upto_region 2 with (go_at_call 27; ((with_reducible refine (CircuitValid_i _ c _ (HB.out _ (Below.refl _ _)).2.2.1).mono ?_); rintro e w1 ⟨rfl, hq⟩; rw [HV.out]; have H1 := Lib.hid hq; clear hq cb; obtain ⟨rc, rf⟩ := blk_all (HB.out _ H1.out).2.1))
    go_wp2_with fail
    have hZ : ((((w1.setCell ⟨A + 1, 0, none⟩ (.int .i64 0)).setCell ⟨A + 1, 1, none⟩ (.slice none 0 0)).setCell ⟨A + 1, 2, none⟩ (.slice none 0 0)).setCell ⟨A + 1, 3, none⟩ (.slice none 0 0)).heap[A + 1]? = some (.cells #[.int .i64 0, .slice none 0 0, .slice none 0 0, .slice none 0 0] 28 (0, 0)) := by
      simpa using blk_set (o := 3) (v := .slice none 0 0) (blk_set (o := 2) (v := .slice none 0 0) (blk_set (o := 1) (v := .slice none 0 0) (blk_set (o := 0) (v := .int .i64 0) (HB.out _ H1.out).2.1)))
    have hA2 := HW.out.2.1
    have hbz := ((((HB.out _ H1.out).2.2.2.setCell (p := ⟨A + 1, 0, none⟩) (by simp; omega) (.int .i64 0)).setCell (p := ⟨A + 1, 1, none⟩) (by simp; omega) (.slice none 0 0)).setCell (p := ⟨A + 1, 2, none⟩) (by simp; omega) (.slice none 0 0)).setCell (p := ⟨A + 1, 3, none⟩) (by simp; omega) (.slice none 0 0)
    clear rc rf
    revert hZ hbz
    generalize ((((w1.setCell ⟨A + 1, 0, none⟩ (.int .i64 0)).setCell ⟨A + 1, 1, none⟩ (.slice none 0 0)).setCell ⟨A + 1, 2, none⟩ (.slice none 0 0)).setCell ⟨A + 1, 3, none⟩ (.slice none 0 0)) = WZ
    intro hZ hbz
    have cr := (blk_all hZ).1
    exact bodyPost_ret (v := .agg #[.int .i64 0, .slice none 0 0, .slice none 0 0, .slice none 0 0]) (by simp [results, Try.results26, go_sem, cr]) rfl ⟨_, _, _, rfl, ⟨World.ownsRow_nil _ _ _ _, World.ownsRow_nil _ _ _ _, World.ownsRow_nil _ _ _ _, fun k h => by simp [Value.ownBlock] at h, by simp, by simp, by simp⟩, hbz⟩
  · rw [remR_yes hv]
    have HV := Lib.hid hv
    have hvv := c.validB_iff.1 hv
    have HVV := Lib.hid (And.intro hvv (buildC_valid hvv true))
    clear hv hvv
    go_enter Try.func26, Try.ntmps26
    go_upto_region 1 with fail
    rw [← HW.out.1, ← HW.out.2.1]
    have cb := (HB.out _ (Below.refl _ _)).1
    have HA := Lib.hid (show CirAt W0 A c.inp (.slice sn c.next.length cn) (.slice sg c.gates.length cg) (.slice so c.outs.length co) from ⟨cb 0, cb 1, cb 2, cb 3⟩)
    have HS : Hid (Sl w sn (ints c.next) ∧ Sl w sg (gcells c.gates) ∧ Sl w so (ints c.outs)) := by
      obtain ⟨_, _, _, _, _, _, e, h1, h2, h3, -⟩ := HG.out
      cases e
      exact ⟨h1, h2, h3⟩
    go_upto_region 3 with (go_at_call 27; ((with_reducible refine (CircuitValid_i _ c _ (HB.out _ (Below.refl _ _)).2.2.1).mono ?_); rintro e w1 ⟨rfl, hq⟩; rw [HV.out]; have H1 := Lib.hid hq; clear hq cb; have cb := (HB.out _ H1.out).1))
    have HO := Lib.hid (optimize_any A sn sg so cn cg co c w1 ⟨cb 0, cb 1, cb 2, cb 3⟩ (HS.out.1.mono (HB.out _ H1.out).2.2.2) (HS.out.2.1.mono (HB.out _ H1.out).2.2.2) (HS.out.2.2.mono (HB.out _ H1.out).2.2.2) HVV.out.1)
    clear cb
    go_upto_region 4 with (go_at_call 28; refine HO.out.mono ?_; rintro e w3 ⟨vn3, vg3, vo3, rfl, ho, hq⟩; rw [show c.inp = (optC c).inp from rfl]; obtain ⟨sn3, cn3, rfl⟩ := own_shape ho.n; obtain ⟨sg3, cg3, rfl⟩ := own_shape ho.g; obtain ⟨so3, co3, rfl⟩ := own_shape ho.o; have H3 : Hid (CirOwn w3 W0.heap.size (optC c) (.slice sn3 (optC c).next.length cn3) (.slice sg3 (optC c).gates.length cg3) (.slice so3 (optC c).outs.length co3) ∧ Below W0.heap.size W0 w3) := ⟨⟨own_base ho.n H1.out.size, own_base ho.g H1.out.size, own_base ho.o H1.out.size, ho.ne, ho.l1, ho.l2, ho.l3⟩, H1.out.trans (hq.mono H1.out.size)⟩; clear hq ho)
    obtain ⟨X, hX⟩ : ∃ X, X = w3.heap.size := ⟨_, rfl⟩
    have kX := blk_new w3 (.cells #[.int .i64 (optC c).inp, .slice sn3 (optC c).next.length cn3, .slice sg3 (optC c).gates.length cg3, .slice so3 (optC c).outs.length co3] 28)
    have bX := (Below.refl w3.heap.size w3).alloc (Nat.le_refl _) (.cells #[.int .i64 (optC c).inp, .slice sn3 (optC c).next.length cn3, .slice sg3 (optC c).gates.length cg3, .slice so3 (optC c).outs.length co3] 28)
    rw [← hX] at kX
    rw [← hX]
    revert kX bX
    generalize w3.alloc (.cells #[.int .i64 (optC c).inp, .slice sn3 (optC c).next.length cn3, .slice sg3 (optC c).gates.length cg3, .slice so3 (optC c).outs.length co3] 28) = W4
    intro kX bX
    have H4 : Hid (W4.heap[X]? = some (.cells #[.int .i64 (optC c).inp, .slice sn3 (optC c).next.length cn3, .slice sg3 (optC c).gates.length cg3, .slice so3 (optC c).outs.length co3] 28 (0, 0)) ∧ CirOwn W4 W0.heap.size (optC c) (.slice sn3 (optC c).next.length cn3) (.slice sg3 (optC c).gates.length cg3) (.slice so3 (optC c).outs.length co3) ∧ Below W0.heap.size W0 W4) :=
      ⟨kX, (⟨own_below H3.out.1.n bX, own_below H3.out.1.g bX, own_below H3.out.1.o bX, H3.out.1.ne, H3.out.1.l1, H3.out.1.l2, H3.out.1.l3⟩ : CirOwn _ _ _ _ _ _), H3.out.2.trans (bX.mono H3.out.2.size)⟩
    have hXs : W0.heap.size ≤ X := by rw [hX]; exact H3.out.2.size
    clear kX bX hX
    have HSZ := Lib.hid HW.out.2.2
    have HOV := Lib.hid (optC_valid HVV.out.1)
    go_loopw [5] (fun _ wr => ∃ (cur : Cir) (sn4 sg4 so4 : Option Addr) (cn4 cg4 co4 : Nat), wr.heap[X]? = some (.cells #[.int .i64 cur.inp, .slice sn4 cur.next.length cn4, .slice sg4 cur.gates.length cg4, .slice so4 cur.outs.length co4] 28 (0, 0)) ∧ CirOwn wr W0.heap.size cur (.slice sn4 cur.next.length cn4) (.slice sg4 cur.gates.length cg4) (.slice so4 cur.outs.length co4) ∧ Below W0.heap.size W0 wr ∧ cur.valid ∧ stepsR 15 cur = stepsR 15 (optC c)) (fun _ wr => match wr.cell? ⟨X, 2, none⟩ with | some (.slice _ n _) => n | _ => 0)
    case atStart => exact ⟨optC c, sn3, sg3, so3, cn3, cg3, co3, H4.out.1, H4.out.2.1, H4.out.2.2, HOV.out, rfl⟩
    case round =>
      obtain ⟨cur, sn4, sg4, so4, cn4, cg4, co4, hx, ho, hb, hv, hst⟩ := hrel
      have hme : (match wr.cell? ⟨X, 2, none⟩ with | some (.slice _ n _) => n | _ => 0) = cur.gates.length := by rw [(blk_all hx).1 2]; rfl
      have HR := Lib.hid (And.intro hx (And.intro ho (And.intro hb (And.intro hv (And.intro hst hme)))))
      have HRD := Lib.hid (redundant_any X sn4 sg4 so4 cn4 cg4 co4 cur wr (CirAt.of_blk hx) (own_sl ho.n) (own_sl ho.g) (own_sl ho.o) hv)
      clear hx ho hb hv hst hme
      cases hf : fstU cur with
      | none =>
        have hd : stepsR 15 (optC c) = cur := by rw [← HR.out.2.2.2.2.1]; exact stepsR_fix (by rw [hf]; rfl) 15
        rw [hf] at HRD
        have HD := Lib.hid hd
        clear hf hd
        go_upto_region 6 with (go_at_call 68; refine HRD.out.mono ?_; rintro e w5 ⟨rfl, hq⟩; have H5 := Lib.hid hq; clear hq)
        have bF := (Below.refl w5.heap.size w5).alloc (Nat.le_refl _) (.cells #[.int .i64 (fvU cur.first.toNat none), .bool (fbU none)] 80)
        revert bF
        generalize w5.alloc (.cells #[.int .i64 (fvU cur.first.toNat none), .bool (fbU none)] 80) = W6
        intro bF
        have hb6 : Below wr.heap.size wr W6 := H5.out.trans (bF.mono H5.out.size)
        have H6 : Hid (CirOwn W6 W0.heap.size cur (.slice sn4 cur.next.length cn4) (.slice sg4 cur.gates.length cg4) (.slice so4 cur.outs.length co4) ∧ Below W0.heap.size W0 W6) := ⟨⟨own_below HR.out.2.1.n hb6, own_below HR.out.2.1.g hb6, own_below HR.out.2.1.o hb6, HR.out.2.1.ne, HR.out.2.1.l1, HR.out.2.1.l2, HR.out.2.1.l3⟩, HR.out.2.2.1.trans (hb6.mono HR.out.2.2.1.size)⟩
        have cx := (blk_all (blk_below hb6 (blk_lt HR.out.1) HR.out.1)).1
        obtain ⟨rc, rf⟩ := blk_all (HB.out _ H6.out.2).2.1
        clear bF hb6
        go_wp2_with fail
        clear cx
        have hR := (HB.out _ H6.out.2).2.1
        have hA2 := HW.out.2.1
        have hO := (H6.out.1).sets4 (r := A + 1) (by have h1 := HW.out.2.2; have h2 := HSZ.out; omega) (base := w.heap.size) (by have h1 := HW.out.2.2; have h2 := HSZ.out; omega) (a := .int .i64 cur.inp) (b' := .slice sn4 cur.next.length cn4) (c' := .slice sg4 cur.gates.length cg4) (d := .slice so4 cur.outs.length co4)
        have hZ : ((((W6.setCell ⟨A + 1, 0, none⟩ (.int .i64 cur.inp)).setCell ⟨A + 1, 1, none⟩ (.slice sn4 cur.next.length cn4)).setCell ⟨A + 1, 2, none⟩ (.slice sg4 cur.gates.length cg4)).setCell ⟨A + 1, 3, none⟩ (.slice so4 cur.outs.length co4)).heap[A + 1]? = some (.cells #[.int .i64 cur.inp, .slice sn4 cur.next.length cn4, .slice sg4 cur.gates.length cg4, .slice so4 cur.outs.length co4] 28 (0, 0)) := by
          simpa using blk_set (o := 3) (v := .slice so4 cur.outs.length co4) (blk_set (o := 2) (v := .slice sg4 cur.gates.length cg4) (blk_set (o := 1) (v := .slice sn4 cur.next.length cn4) (blk_set (o := 0) (v := .int .i64 cur.inp) hR)))
        have hbz := ((((HB.out _ H6.out.2).2.2.2.setCell (p := ⟨A + 1, 0, none⟩) (by simp; omega) (.int .i64 cur.inp)).setCell (p := ⟨A + 1, 1, none⟩) (by simp; omega) (.slice sn4 cur.next.length cn4)).setCell (p := ⟨A + 1, 2, none⟩) (by simp; omega) (.slice sg4 cur.gates.length cg4)).setCell (p := ⟨A + 1, 3, none⟩) (by simp; omega) (.slice so4 cur.outs.length co4)
        clear rc rf
        revert hZ hbz hO
        generalize ((((W6.setCell ⟨A + 1, 0, none⟩ (.int .i64 cur.inp)).setCell ⟨A + 1, 1, none⟩ (.slice sn4 cur.next.length cn4)).setCell ⟨A + 1, 2, none⟩ (.slice sg4 cur.gates.length cg4)).setCell ⟨A + 1, 3, none⟩ (.slice so4 cur.outs.length co4)) = WZ
        intro hO hZ hbz
        have cr := (blk_all hZ).1
        exact bodyPost_ret (v := .agg #[.int .i64 cur.inp, .slice sn4 cur.next.length cn4, .slice sg4 cur.gates.length cg4, .slice so4 cur.outs.length co4]) (by simp [results, Try.results26, go_sem, cr]) rfl (by rw [HD.out]; exact ⟨_, _, _, rfl, hO, hbz⟩)
      | some kv =>
        obtain ⟨k, val⟩ := kv
        obtain ⟨p, hp⟩ : ∃ p, p = ((cur.first.toNat + k : Nat) : Int) := ⟨_, rfl⟩
        have hk14 := fstU_lt hf
        obtain ⟨i0, i1, l1, l2, l3⟩ := HR.out.2.2.2.1.lim
        have hpb : 0 ≤ p ∧ p ≤ 40 := by
          have e1 : cur.first = 1 + cur.inp + cur.next.length := rfl
          omega
        have HRD2 : Hid (Calls Try.prog 68 #[.pointer (some ⟨X, 0, none⟩)] wr fun e w' => e = .returned (.tuple #[.agg #[.int .i64 p, .bool val], .bool true]) ∧ Below wr.heap.size wr w') := by rw [hp]; rw [hf] at HRD; exact HRD
        obtain ⟨cm, hcm⟩ : ∃ cm, cm = cur.mapC (forceL p val) := ⟨_, rfl⟩
        have hcv : cm.valid := by rw [hcm]; exact mapC_validU HR.out.2.2.2.1 hpb.1
        have hlen : (optC cm).gates.length < cur.gates.length := by rw [hcm, hp]; exact step_len HR.out.2.2.2.1 hf
        have hstep : stepR cur = optC cm := by
          unfold stepR
          rw [hf]
          show optR (cur.mapC (forceL ((cur.first.toNat + k : Nat) : Int) val)) = _
          rw [← hp, ← hcm]
          exact optR_yes ((Cir.validB_iff _).2 hcv)
        have hsteps : stepsR 15 (optC cm) = stepsR 15 (optC c) := by
          rw [← hstep, stepsR_step HR.out.2.2.2.1 (by rw [hf]; rfl)]
          exact HR.out.2.2.2.2.1
        have HCM := Lib.hid (And.intro hcm (And.intro hcv (And.intro hlen hsteps)))
        clear hf HRD hp hcm hcv hlen hstep hsteps l1 l2 l3 i0 i1 hk14
        obtain ⟨hp0, hp1⟩ := hpb
        go_upto_region 7 with (go_at_call 68; refine HRD2.out.mono ?_; rintro e w5 ⟨rfl, hq⟩; have H5 := Lib.hid hq; clear hq)
        have bF := (Below.refl w5.heap.size w5).alloc (Nat.le_refl _) (.cells #[.int .i64 p, .bool val] 80)
        have kF := blk_new w5 (.cells #[.int .i64 p, .bool val] 80)
        obtain ⟨Y, hY⟩ : ∃ Y, Y = w5.heap.size := ⟨_, rfl⟩
        rw [← hY] at kF
        rw [← hY]
        revert bF kF
        generalize w5.alloc (.cells #[.int .i64 p, .bool val] 80) = W6
        intro bF kF
        have hb6 : Below wr.heap.size wr W6 := H5.out.trans (bF.mono H5.out.size)
        have hx6 := blk_below hb6 (blk_lt HR.out.1) HR.out.1
        obtain ⟨cF, -⟩ := blk_all kF
        have HFC := Lib.hid (force_any X cur sn4 sg4 so4 cn4 cg4 co4 p val W6 (CirAt.of_blk hx6) ((own_sl HR.out.2.1.n).mono hb6) ((own_sl HR.out.2.1.g).mono hb6) ((own_sl HR.out.2.1.o).mono hb6) HR.out.2.2.2.1)
        have H6 := Lib.hid (And.intro hx6 (HR.out.2.2.1.trans (hb6.mono HR.out.2.2.1.size)))
        clear bF kF hb6 hx6 hY
        go_wp2_with (first
          | (go_at_call 69; refine HFC.out.mono ?_; rintro e w7 ⟨vn, vg, vo, rfl, ho, hq⟩; rw [← HCM.out.1] at ho; rw [show cur.inp = cm.inp by rw [HCM.out.1]; rfl]; obtain ⟨sn7, cn7, rfl⟩ := own_shape ho.n; obtain ⟨sg7, cg7, rfl⟩ := own_shape ho.g; obtain ⟨so7, co7, rfl⟩ := own_shape ho.o; have H7 := Lib.hid (And.intro ho hq); clear ho hq cF)
          | (go_at_call 35; go_loud (refine (ptrC_any cm.inp sn7 sg7 so7 cm.next.length cn7 cm.gates.length cg7 cm.outs.length co7 w7).mono ?_; rintro e w8 ⟨rfl, h8⟩; have k8 : w8.heap[w7.heap.size]? = some (.cells #[.int .i64 cm.inp, .slice sn7 cm.next.length cn7, .slice sg7 cm.gates.length cg7, .slice so7 cm.outs.length co7] 28 (0, 0)) := (by subst h8; exact blk_new _ _); have b8 : Below w7.heap.size w7 w8 := (by subst h8; exact (Below.refl _ _).alloc (Nat.le_refl _) _); have hx8 := blk_below b8 (Nat.lt_of_lt_of_le (blk_lt H6.out.1) H7.out.2.size) (blk_below H7.out.2 (blk_lt H6.out.1) H6.out.1); have HOP := Lib.hid (optimize_any w7.heap.size sn7 sg7 so7 cn7 cg7 co7 cm w8 (CirAt.of_blk k8) ((own_sl H7.out.1.n).mono b8) ((own_sl H7.out.1.g).mono b8) ((own_sl H7.out.1.o).mono b8) HCM.out.2.1); have H8 := Lib.hid (And.intro hx8 ((H6.out.2.trans (H7.out.2.mono H6.out.2.size)).trans (b8.mono (Nat.le_trans H6.out.2.size H7.out.2.size)))); clear k8 b8 hx8 h8))
          | (go_at_call 28; refine HOP.out.mono ?_; rintro e w9 ⟨vn, vg, vo, rfl, ho, hq⟩; rw [show cm.inp = (optC cm).inp from rfl]; obtain ⟨sn9, cn9, rfl⟩ := own_shape ho.n; obtain ⟨sg9, cg9, rfl⟩ := own_shape ho.g; obtain ⟨so9, co9, rfl⟩ := own_shape ho.o; have hx9 := blk_below hq (blk_lt H8.out.1) H8.out.1; have H9 := Lib.hid (And.intro hx9 (And.intro ho (H8.out.2.trans (hq.mono H8.out.2.size)))); obtain ⟨xc, xf⟩ := blk_all hx9; clear ho hq hx9))
        have hX8 : X < w8.heap.size := blk_lt H8.out.1
        have hO := H9.out.2.1.sets4 (r := X) hX8 (base := W0.heap.size) H8.out.2.size (a := .int .i64 (optC cm).inp) (b' := .slice sn9 (optC cm).next.length cn9) (c' := .slice sg9 (optC cm).gates.length cg9) (d := .slice so9 (optC cm).outs.length co9)
        have hZ : ((((w9.setCell ⟨X, 0, none⟩ (.int .i64 (optC cm).inp)).setCell ⟨X, 1, none⟩ (.slice sn9 (optC cm).next.length cn9)).setCell ⟨X, 2, none⟩ (.slice sg9 (optC cm).gates.length cg9)).setCell ⟨X, 3, none⟩ (.slice so9 (optC cm).outs.length co9)).heap[X]? = some (.cells #[.int .i64 (optC cm).inp, .slice sn9 (optC cm).next.length cn9, .slice sg9 (optC cm).gates.length cg9, .slice so9 (optC cm).outs.length co9] 28 (0, 0)) := by
          simpa using blk_set (o := 3) (v := .slice so9 (optC cm).outs.length co9) (blk_set (o := 2) (v := .slice sg9 (optC cm).gates.length cg9) (blk_set (o := 1) (v := .slice sn9 (optC cm).next.length cn9) (blk_set (o := 0) (v := .int .i64 (optC cm).inp) H9.out.1)))
        have hbz := (((H9.out.2.2.setCell (p := ⟨X, 0, none⟩) hXs (.int .i64 (optC cm).inp)).setCell (p := ⟨X, 1, none⟩) hXs (.slice sn9 (optC cm).next.length cn9)).setCell (p := ⟨X, 2, none⟩) hXs (.slice sg9 (optC cm).gates.length cg9)).setCell (p := ⟨X, 3, none⟩) hXs (.slice so9 (optC cm).outs.length co9)
        clear xc xf
        revert hZ hbz hO
        generalize ((((w9.setCell ⟨X, 0, none⟩ (.int .i64 (optC cm).inp)).setCell ⟨X, 1, none⟩ (.slice sn9 (optC cm).next.length cn9)).setCell ⟨X, 2, none⟩ (.slice sg9 (optC cm).gates.length cg9)).setCell ⟨X, 3, none⟩ (.slice so9 (optC cm).outs.length co9)) = WZ
        intro hO hZ hbz
        have HZ := Lib.hid (And.intro hZ (And.intro hO hbz))
        clear hO hZ hbz
        go_roundw
        case rel => exact ⟨optC cm, sn9, sg9, so9, cn9, cg9, co9, HZ.out.1, HZ.out.2.1, HZ.out.2.2, optC_valid HCM.out.2.1, HCM.out.2.2.2⟩
        case measure =>
          rw [HR.out.2.2.2.2.2, (blk_all HZ.out.1).1 2]
          exact HCM.out.2.2.1

end Go.Proofs.Ytdcjiclonjillaa
